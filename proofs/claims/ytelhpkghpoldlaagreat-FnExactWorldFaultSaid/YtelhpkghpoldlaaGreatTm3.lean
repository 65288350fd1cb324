/- More that lays something new: clipped slices, bytes, made slices. -/
import Derived.Test.YtelhpkghpoldlaaGreatTm2
import Derived.Laws.IdiomStrings
import Derived.Orders

namespace Go.TM
open Go

theorem sliceBounds3 {P : Program} {lo hi mx : Value} {len cap : Nat} {l : Int} {k1 k2 k3 : IntKind} (hl : lo = .int k1 l) (hh : hi = .int k2 l) (hm : mx = .int k3 l) (h0 : 0 ≤ l) (h2 : l ≤ cap) (w : World) :
    (Instr.sliceBounds true len cap (some lo) (some hi) (some mx)).run P w = .ok (l.toNat, l.toNat, l.toNat) w ∧ (l = 0 → (Instr.sliceBounds true len cap none (some hi) (some mx)).run P w = .ok (0, 0, 0) w) := by
  subst hl; subst hh; subst hm
  have e1 := sliceBound_ok (P := P) (k := k3) (i := l) (y := cap) (code := .slice3Acap) h0 h2 w
  have e2 := sliceBound_ok (P := P) (k := k2) (i := l) (y := l.toNat) (code := .slice3B) h0 (by omega) w
  have e3 := sliceBound_ok (P := P) (k := k1) (i := l) (y := l.toNat) (code := .slice3C) h0 (by omega) w
  constructor
  · simp [Instr.sliceBounds, Sem.run_bind, e1, e2, e3]
  · intro hz
    subst hz
    rw [Int.toNat_zero] at e1 e2
    simp [Instr.sliceBounds, Sem.run_bind, e1, e2]

section app
variable {E : Env} {z : Zn} {n tick : Nat} {fr : List (Nat × T)} {rt : List (Nat × Root)} {gh : Nat → G} {w : World} {FS : List Nat} {a : Act}
variable {call : FuncId → List Arg → Option Res} {me : FuncId} {d : Nat} {ty0 : TypeId} {e : Eff} {o : Oper}

theorem op_slice_clip {ty : TypeId} {x : Operand} {lo hi mx : Option Operand} (ht : TiOk E) (h : Here E z n tick fr rt gh w FS a) (ho : o.op = .slice ty x lo hi mx) (hd : EffOk tick rt d e)
    (he : (evOp E call me (St.val fr) tick d ty0 (.slice ty x lo hi mx)).run rt = some e) (hm : mx ≠ none) :
    Says E z tick rt gh w FS d e (execOp a.eval o) := by
  simp only [evOp] at he
  obtain ⟨t, h1, he1⟩ := run_bind he
  obtain ⟨tl, h2, he2⟩ := run_bind he1
  obtain ⟨th, h3, he3⟩ := run_bind he2
  obtain ⟨tm, h4, he4⟩ := run_bind he3
  clear he he1 he2 he3
  have hx := run_of h1
  clear h1
  obtain ⟨k1, k2⟩ := h.frame.val hx
  obtain ⟨mo, rfl⟩ : ∃ mo, mx = some mo := by cases mx with | none => exact absurd rfl hm | some mo => exact ⟨mo, rfl⟩
  have hmne : tm.isEmpty = false := by
    simp only [Option.toList, args] at h4
    obtain ⟨t1, _, h5⟩ := run_bind h4
    obtain ⟨t2, _, h6⟩ := run_bind h5
    simp only [Rd.run, Option.some.injEq] at h6
    rw [← h6]; rfl
  split at he4
  · obtain ⟨lo', g1, he5⟩ := run_bind he4
    obtain ⟨hi', g2, he6⟩ := run_bind he5
    rw [hmne] at he6
    simp [Rd.run] at he6
  · rename_i el es
    obtain ⟨i, g1, he5⟩ := run_bind he4
    obtain ⟨l, g2, he6⟩ := run_bind he5
    obtain ⟨hh, g3, he7⟩ := run_bind he6
    clear he4 he5 he6
    split at he7
    · simp [Rd.run] at he7
    · rename_i hel
      simp only [ne_eq, Decidable.not_not] at hel
      have hu := (ht _ _ (run_of g1)).elem el hel
      have k1' : okV (szOf E) w.heap (Inow z w (FS ++ [])) (.sl el es) (a.eval x) [] := k1
      simp only [okV, true_and] at k1'
      obtain ⟨ad, cap, hv, hcap, r1⟩ := k1'
      split at he7
      · rename_i hc
        rw [hmne] at hc
        simp at hc
      · split at he7
        · rename_i hc
          obtain ⟨c0, c1, rfl, c3, c4⟩ := hc
          simp only [Rd.run, Option.some.injEq] at he7
          obtain ⟨m, hm⟩ := szE ht (run_of g1) hel w
          have hmo : ∃ k, a.eval mo = .int k l := by
            rcases bound_ok h.frame h4 c4 with ⟨h5, _⟩ | ⟨xo, k, h5, hk⟩
            · simp at h5
            · simp only [Option.some.injEq] at h5; subst h5; exact ⟨k, hk⟩
          have hho : ∃ ho k, hi = some ho ∧ a.eval ho = .int k l := by
            rcases bound_ok h.frame h3 (run_of g3) with ⟨h5, _⟩ | ⟨xo, k, h5, hk⟩
            · subst h5
              simp only [Option.toList, args, Rd.run, Option.some.injEq] at h3
              rw [← h3] at c0; simp at c0
            · exact ⟨xo, k, h5, hk⟩
          obtain ⟨km, hmo⟩ := hmo
          obtain ⟨hop, kh, rfl, hho⟩ := hho
          have hlo : (lo = none ∧ l = 0) ∨ ∃ xo k, lo = some xo ∧ a.eval xo = .int k l := bound_ok h.frame h2 (run_of g2)
          have hrun : (execOp a.eval o).run E.P w = .ok (.value (.slice ad 0 0)) w := by
            rcases hlo with ⟨rfl, rfl⟩ | ⟨xo, k, rfl, hk⟩
            · have hb := (sliceBounds3 (P := E.P) (lo := .int km 0) (len := es.length) (cap := cap) (k1 := km) rfl hho hmo c1 (by omega) w).2 rfl
              simp only [execOp, ho, hv, Instr.sliceAt, Option.map_none, Option.map_some, Sem.run_bind, run_underlying hu, Result.andThen_ok, Instr.slice, hb, hm.1]
              rfl
            · have hb := (sliceBounds3 (P := E.P) (len := es.length) (cap := cap) hk hho hmo c1 (by omega) w).1
              simp only [execOp, ho, hv, Instr.sliceAt, Option.map_some, Sem.run_bind, run_underlying hu, Result.andThen_ok, Instr.slice, hb, hm.1]
              simp
          refine says_slot (ss := []) (e0 := rooted d tick (.own el [])) (u := .slice ad 0 0) (w1 := w) (gh1 := gh) (I1 := Inow z w (FS ++ ([] ++ []))) hrun ?_ ?_ ?_ (h.heap.keeps_refl _ fun b hb => hb) (slot_own (f := []) h.heap (by simp [okV]) ?_)
          · rw [← he7]; exact rooted_sets
          · rw [← he7]
          · rw [← he7]
          · intro r0 h0
            exact newOk_lt (ss := []) (hd.new ⟨tick, tick, false, [.own el []]⟩ (by rw [← he7]; rfl)) h0
        · simp [Rd.run] at he7
  · simp [Rd.run] at he4

theorem okEs_replicate {sz h I} {s : Nat} {c : List T} {vs : List Value} (hc : okL sz h I c vs []) (hs : c.length = s) (hvs : vs.length = s) : ∀ (m : Nat) {l : List Value}, (∀ j, j < m → (l.drop (j * s)).take s = vs) → okEs sz h I s (List.replicate m c) l []
  | 0, l, _ => by simp [okEs]
  | m + 1, l, hl => by
    simp only [List.replicate_succ, okEs]
    refine ⟨[], [], hs, rfl, ?_, okEs_replicate hc hs hvs m fun j hj => ?_⟩
    · have := hl 0 (by omega)
      simp only [Nat.zero_mul, List.drop_zero] at this
      rw [this]; exact hc
    · have := hl (j + 1) (by omega)
      rw [List.drop_drop]
      have e1 : s + j * s = (j + 1) * s := by rw [Nat.succ_mul]; omega
      rw [e1]; exact this

/-- Cells that a zero value fills. -/
theorem zeros_row {zero : Array Value} {s m : Nat} (hs : zero.size = s) : ∀ j, j < m → ((((Array.range (m * s)).map (zero[· % zero.size]!)).toList.drop (j * s)).take s) = zero.toList := by
  intro j hj
  have hle : (j + 1) * s ≤ m * s := Nat.mul_le_mul_right _ hj
  rw [Nat.succ_mul] at hle
  apply List.ext_getElem?
  intro k
  rw [List.getElem?_take]
  by_cases hk : k < s
  · rw [if_pos hk, List.getElem?_drop]
    have h1 : j * s + k < m * s := by omega
    have h2 : (j * s + k) % zero.size = k := by rw [hs, Nat.mul_comm, Nat.mul_add_mod, Nat.mod_eq_of_lt hk]
    simp only [Array.toList_map, Array.toList_range, List.getElem?_map]
    rw [List.getElem?_range h1]
    simp only [Option.map_some, h2]
    rw [getElem!_pos zero k (by omega)]
    simp
  · rw [if_neg hk, List.getElem?_eq_none (by simp; omega)]

theorem wrap64 {m : Int} (h0 : 0 ≤ m) (h1 : m < 9223372036854775808) : IntKind.i64.wrap m = m := by
  simp [IntKind.wrap, IntKind.bits, IntKind.signed]
  omega

theorem op_makeSlice {ty : TypeId} {nn cc : Operand} (ht : TiOk E) (h : Here E z n tick fr rt gh w FS a) (ho : o.op = .makeSlice ty nn cc) (hd : EffOk tick rt d e)
    (he : (evOp E call me (St.val fr) tick d ty0 (.makeSlice ty nn cc)).run rt = some e) :
    Says E z tick rt gh w FS d e (execOp a.eval o) := by
  simp only [evOp] at he
  obtain ⟨tn, h1, he1⟩ := run_bind he
  obtain ⟨tc, h2, he2⟩ := run_bind he1
  obtain ⟨i, h3, he3⟩ := run_bind he2
  obtain ⟨el, h4, he4⟩ := run_bind he3
  obtain ⟨ie, h5, he5⟩ := run_bind he4
  clear he he1 he2 he3 he4
  have hn := run_of h1
  have hc := run_of h2
  clear h1 h2
  obtain ⟨k1, k1s⟩ := h.frame.val hn
  obtain ⟨k2, k2s⟩ := h.frame.val hc
  split at he5
  · rename_i m c
    split at he5
    · rename_i hcond
      obtain ⟨rfl, c1, c2, c3⟩ := hcond
      simp only [Rd.run, Option.some.injEq] at he5
      have v1 := okX_v.1 k1
      have v2 := okX_v.1 k2
      have hu := (ht _ _ (run_of h3)).elem el (run_of h4)
      obtain ⟨inf, zv, i1, i2, i3, i4, i5, i6, i7, i8⟩ := (ht _ _ (run_of h5)).info
      have te := ht _ _ (run_of h5)
      have hmax : m ≤ 4294967296 := by simpa [maxElems] using c2
      have hw := wrap64 c1 (by omega)
      have hbig : ¬ ((inf.bytes : Int) * m > 281474976710656) := by
        have h1 : inf.bytes * m.toNat ≤ 1000 * 4294967296 := Nat.mul_le_mul (by omega) (by omega)
        have h2 : ((inf.bytes * m.toNat : Nat) : Int) = inf.bytes * m := by rw [Int.natCast_mul, Int.toNat_of_nonneg c1]
        omega
      have hrun : (execOp a.eval o).run E.P w = .ok (.value (.slice (some ⟨w.heap.size, 0, none⟩) m.toNat m.toNat)) (w.alloc (.cells ((Array.range (m.toNat * ie.size)).map (zv.cells[· % zv.cells.size]!)) el (0, 0))) := by
        have hneg : ¬ (m < 0) := by omega
        by_cases hz : m.toNat * ie.size = 0
        · simp [execOp, ho, v1, v2, Instr.makeSlice, Sem.run_bind, run_underlying hu, run_typeInfo i1, asInt, asIntOf, hw, hneg, hbig, te.size, hz, newRow]
          simp [Array.range]
        · simp [execOp, ho, v1, v2, Instr.makeSlice, Sem.run_bind, run_underlying hu, run_typeInfo i1, asInt, asIntOf, hw, hneg, hbig, te.size, hz, newRow, zeroValue, i4]
      have hk : okEs (szOf E) w.heap (Inow z w (FS ++ ([] ++ []))) (szOf E el) (List.replicate m.toNat ie.zero) ((Array.range (m.toNat * ie.size)).map (zv.cells[· % zv.cells.size]!)).toList [] := by
        have hsz : szOf E el = ie.size := by simp [szOf, run_of h5]
        rw [hsz]
        exact okEs_replicate (i7 _ _) i6 (by simpa using i5) _ (zeros_row i5)
      have hsz : szOf E el = ie.size := by simp [szOf, run_of h5]
      obtain ⟨gh', FS', p1, p2, p3, p4⟩ := slot_slice (d := d) (tick := tick) (el := el) (e' := el) (es := List.replicate m.toNat ie.zero) (cap := m.toNat) (fz := (0, 0)) (f := []) (floats0 h.heap) hk (by simp) (by simp [hsz])
        (fun r0 h0 => newOk_lt (ss := []) (hd.new ⟨tick, tick, false, [.own el (List.replicate m.toNat ie.zero)]⟩ (by rw [← he5]; rfl)) h0) (fun i _ h => by omega)
      rw [List.length_replicate] at p3
      unfold Says
      rw [hrun, ← he5]
      show Done _ _ _ _ _ _ _ _ _ _ _
      rw [rtOf_eq, rooted_sets]
      exact ⟨gh', FS', p1, p2, p3, p4⟩
    · simp [Rd.run] at he5
  · simp [Rd.run] at he5
theorem op_bytes {src dst : TypeId} {x : Operand} {s : ByteArray} (ht : TiOk E) (h : Here E z n tick fr rt gh w FS a) (ho : o.op = .convert src dst x) (hd : EffOk tick rt d e)
    (he : (evOp E call me (St.val fr) tick d ty0 (.convert src dst x)).run rt = some e) (hx : St.val fr x = some (.v (.string s))) {i : TInfo} (hi : E.ti dst = some i) {el : TypeId} (hel : i.elem = some el) :
    Says E z tick rt gh w FS d e (execOp a.eval o) := by
  simp only [evOp] at he
  obtain ⟨t, h1, he1⟩ := run_bind he
  have h1 := run_of h1
  rw [hx] at h1
  simp only [Option.some.injEq] at h1
  rw [← h1] at he1
  dsimp only at he1
  obtain ⟨i', h2, he2⟩ := run_bind he1
  have h2 := run_of h2
  rw [hi] at h2
  simp only [Option.some.injEq] at h2
  rw [← h2, hel] at he2
  dsimp only at he2
  obtain ⟨ie, h3, he3⟩ := run_bind he2
  split at he3
  · rename_i hc
    obtain ⟨c1, c2⟩ := hc
    simp only [Rd.run, Option.some.injEq] at he3
    obtain ⟨el', u1, u2, u3⟩ := run_u8 c1
    have hu := (ht _ _ hi).elem el hel
    rw [u1] at hu
    simp only [Option.some.injEq, TypeDesc.slice.injEq] at hu
    subst hu
    have hv := okX_v.1 (h.frame.val hx).1
    have hrun : (execOp a.eval o).run E.P w = .ok (.value (.slice (some ⟨w.heap.size, 0, none⟩) s.size (grownCap w s.size 0 el')))
        (w.drew.alloc (.cells (bytesRow s (grownCap w s.size 0 el')) el' ((bytesRow s (grownCap w s.size 0 el')).size, (bytesRow s (grownCap w s.size 0 el')).size + 1))) := by
      simp only [execOp, ho, hv, Sem.run_bind]
      rw [run_bytes_of_string w src dst el' s u3 u1 u2]
      rfl
    have hsz : szOf E el' = 1 := by simp [szOf, run_of h3, c2]
    have hcap : s.size ≤ grownCap w s.size 0 el' := by unfold grownCap; simp only [Question.cut]; omega
    have hl : (bytesT s).length = s.size := by simp [bytesT]
    have hrow : (bytesRow s (grownCap w s.size 0 el')).size = grownCap w s.size 0 el' := by
      simp only [bytesRow, Array.size_append, Array.size_map, Array.size_replicate]
      have : s.data.size = s.size := rfl
      omega
    have hk : okEs (szOf E) w.heap (Inow z w (FS ++ ([] ++ []))) (szOf E el') (bytesT s) (bytesRow s (grownCap w s.size 0 el')).toList [] := by
      rw [hsz]
      refine okEs_ext (bytes_cells (P := E.P) (w := w) s).2 ?_
      have hlen : (s.data.toList.map fun b => Value.int .u8 b.toNat).length = s.size := by rw [List.length_map]; rfl
      rw [hl, Nat.mul_one]
      simp only [bytesRow, Array.toList_append, Array.toList_map]
      rw [List.take_append_of_le_length (by omega)]
    have hr : HRel (szOf E) z rt gh w.drew FS ([] ++ []) := h.heap.drew
    obtain ⟨gh', FS', p1, p2, p3, p4⟩ := slot_slice (d := d) (tick := tick) (el := el') (e' := el') (es := bytesT s) (cap := grownCap w s.size 0 el') (arr := bytesRow s (grownCap w s.size 0 el'))
      (fz := ((bytesRow s (grownCap w s.size 0 el')).size, (bytesRow s (grownCap w s.size 0 el')).size + 1)) (f := []) hr hk (by omega) (by rw [hsz]; omega)
      (fun r0 h0 => newOk_lt (ss := []) (hd.new ⟨tick, tick, false, [.own el' (bytesT s)]⟩ (by rw [← he3]; rfl)) h0) (fun i hi h => by omega)
    rw [hl] at p3
    unfold Says
    rw [hrun, ← he3]
    show Done _ _ _ _ _ _ _ _ _ _ _
    rw [rtOf_eq, rooted_sets]
    exact ⟨gh', FS', p1, p2, p3, p4⟩
  · simp [Rd.run] at he3
end app
end Go.TM

/- Literals. -/
namespace Go.TM
open Go

theorem foldl_set {off : Nat} : ∀ (l : List Value) (k : Nat) (cells : Array Value), off + k + l.length ≤ cells.size →
    ((l.zipIdx k).foldl (fun cs p => cs.setIfInBounds (off + p.2) p.1) cells).toList = cells.toList.take (off + k) ++ l ++ cells.toList.drop (off + k + l.length)
  | [], k, cells, h => by simp
  | v :: l, k, cells, h => by
    simp only [List.length_cons] at h
    simp only [List.zipIdx_cons, List.foldl_cons]
    have hol : off + k < cells.toList.length := by rw [Array.length_toList]; omega
    rw [foldl_set l (k + 1) _ (by simp; omega)]
    have e1 : (cells.setIfInBounds (off + k) v).toList.take (off + (k + 1)) = cells.toList.take (off + k) ++ [v] := by
      rw [Array.toList_setIfInBounds, List.set_eq_take_append_cons_drop, if_pos hol, List.take_append]
      have : (cells.toList.take (off + k)).length = off + k := by rw [List.length_take]; omega
      rw [this, List.take_of_length_le (by omega)]
      have e2 : off + (k + 1) - (off + k) = 1 := by omega
      rw [e2]; simp
    have e2 : (cells.setIfInBounds (off + k) v).toList.drop (off + (k + 1) + l.length) = cells.toList.drop (off + k + (l.length + 1)) := by
      rw [Array.toList_setIfInBounds, List.drop_set_of_lt (by omega)]
      congr 1; omega
    rw [e1, e2]
    simp

theorem fill_cells {off : Nat} {v : Value} {cells : Array Value} (h : off + v.cells.size ≤ cells.size) :
    (v.cells.zipIdx.foldl (fun cs (c, j) => cs.setIfInBounds (off + j) c) cells).toList = cells.toList.take off ++ v.cells.toList ++ cells.toList.drop (off + v.cells.size) := by
  have := foldl_set (off := off) v.cells.toList 0 cells (by rw [Array.length_toList]; omega)
  rw [Nat.add_zero, Array.length_toList] at this
  rw [← this, ← Array.foldl_toList, Array.toList_zipIdx]

def Q1 (x : Cx) (S : Nat → Nat → Prop) (c : T) (u : Value) : Prop :=
  (isOwn c = true → okV x.sz x.h x.I c u []) ∧ (isOwn c = false → ∀ d v p k, okX0 x (view1 d v p k c) u ∧ st0 S (view1 d v p k c))

theorem okMix_All2 {x : Cx} {S} : ∀ {cs us}, okMix x S cs us [] ↔ All2 (Q1 x S) cs us
  | [], us => by simp [okMix, All2]
  | c :: cs, us => by
    constructor
    · intro h
      simp only [okMix] at h
      obtain ⟨u, us', f1, f2, rfl, hf, h1, h2, h3⟩ := h
      obtain ⟨rfl, rfl⟩ : f1 = [] ∧ f2 = [] := by simpa using hf.symm
      exact ⟨u, us', rfl, ⟨h1, fun hc => (h2 hc).2⟩, okMix_All2.1 h3⟩
    · rintro ⟨u, us', rfl, ⟨h1, h2⟩, h3⟩
      exact ⟨u, us', [], [], rfl, rfl, h1, fun hc => ⟨rfl, h2 hc⟩, okMix_All2.2 h3⟩

theorem All2.append {α β : Type} {R : α → β → Prop} : ∀ {a1 a2 : List α} {b1 b2 : List β}, All2 R a1 b1 → All2 R a2 b2 → All2 R (a1 ++ a2) (b1 ++ b2)
  | [], a2, b1, b2, h1, h2 => by simp only [All2] at h1; subst h1; simpa using h2
  | x :: a1, a2, b1, b2, h1, h2 => by
    obtain ⟨b, bs, rfl, g1, g2⟩ := h1
    exact ⟨b, bs ++ b2, rfl, g1, g2.append h2⟩

theorem Q1_of {x : Cx} {S} {c : T} {u : Value} (h : okX0 x c u) (hs : st0 S c) : Q1 x S c u := by
  refine ⟨fun hc => ?_, fun hc d v p k => ?_⟩
  · cases c <;> first | exact h | simp [isOwn] at hc
  · cases c <;> first
      | exact ⟨h, hs⟩
      | exact ⟨okX0_dead, trivial⟩
      | simp [isOwn] at hc

theorem All2.Q1 {x : Cx} {S} : ∀ {cs us}, All2 (okX0 x) cs us → (∀ c, c ∈ cs → st0 S c) → All2 (Q1 x S) cs us
  | [], us, h, _ => h
  | c :: cs, us, h, hs => by
    obtain ⟨u, us', rfl, h1, h2⟩ := h
    exact ⟨u, us', rfl, Q1_of h1 (hs c (by simp)), h2.Q1 fun c hc => hs c (by simp [hc])⟩

theorem fillParts_ok {x : Cx} {S} {i : TInfo} : ∀ {ps : List (Nat × List T)} {vps : List (Nat × Value)} {cs cs' : List T} {us : Array Value}, fillParts i cs ps = some cs' → All2 (Q1 x S) cs us.toList →
    All2 (fun p v => p.1 = v.1 ∧ All2 (Q1 x S) p.2 v.2.cells.toList) ps vps → ∃ us', Instr.fill (i.fields.toArray[·]?) us vps = some us' ∧ All2 (Q1 x S) cs' us'.toList
  | [], vps, cs, cs', us, h, hk, hp => by
    simp only [All2] at hp; subst hp
    simp only [fillParts, Option.some.injEq] at h; subst h
    exact ⟨us, rfl, hk⟩
  | (k, xs) :: ps, vps, cs, cs', us, h, hk, hp => by
    obtain ⟨⟨k', v⟩, vps', rfl, ⟨rfl, h1⟩, h2⟩ := hp
    simp only [fillParts] at h
    split at h
    · rename_i off size hf
      split at h
      · rename_i hc
        obtain ⟨c1, c2⟩ := hc
        have l1 : us.size = cs.length := by have := hk.len; rwa [Array.length_toList] at this
        have l2 : v.cells.size = xs.length := by have := h1.len; rwa [Array.length_toList] at this
        have hfit : off + v.cells.size ≤ us.size := by omega
        obtain ⟨us', g1, g2⟩ := fillParts_ok (us := v.cells.zipIdx.foldl (fun cs (c, j) => cs.setIfInBounds (off + j) c) us) h (by
          rw [fill_cells hfit]
          unfold splice
          rw [l2]
          exact ((hk.take off).append h1).append (hk.drop (off + xs.length))) h2
        refine ⟨us', ?_, g2⟩
        have hf' : i.fields.toArray[k]? = some (off, size) := by rw [List.getElem?_toArray]; exact hf
        dsimp only
        unfold Instr.fill
        simp only [hf']
        rw [if_neg (by simp; omega)]
        exact g1
      · simp at h
    · simp at h

section lit
variable {E : Env} {z : Zn} {n tick : Nat} {fr : List (Nat × T)} {rt : List (Nat × Root)} {gh : Nat → G} {w : World} {FS : List Nat} {a : Act}
variable {call : FuncId → List Arg → Option Res} {me : FuncId} {d : Nat} {ty0 : TypeId} {e : Eff} {o : Oper}

theorem buildParts_ok {x : Cx} {S : Nat → Nat → Prop} {nn : Nat} (f : FRel x S nn fr a) : ∀ {ps : List (Nat × Operand)} {ts : List (Nat × T)}, (evBuildParts E (St.val fr) ps).run rt = some ts →
    All2 (fun p v => p.1 = v.1 ∧ okX x p.2 v.2 ∧ stX S p.2) ts (ps.map fun p => (p.1, a.eval p.2))
  | [], ts, h => by simp only [evBuildParts, Rd.run, Option.some.injEq] at h; subst h; rfl
  | (k, o) :: ps, ts, h => by
    simp only [evBuildParts] at h
    obtain ⟨t, h1, h2⟩ := run_bind h
    obtain ⟨ts', h3, h4⟩ := run_bind h2
    simp only [Rd.run, Option.some.injEq] at h4; subst h4
    obtain ⟨k1, k2⟩ := f.val (run_of h1)
    exact ⟨_, _, rfl, ⟨rfl, k1, k2⟩, buildParts_ok f h3⟩

theorem op_build {ty : TypeId} {parts : Array (Nat × Operand)} (ht : TiOk E) (h : Here E z n tick fr rt gh w FS a) (ho : o.op = .build ty parts) (hd : EffOk tick rt d e)
    (he : (evOp E call me (St.val fr) tick d ty0 (.build ty parts)).run rt = some e) :
    Says E z tick rt gh w FS d e (execOp a.eval o) := by
  simp only [evOp] at he
  obtain ⟨i, h1, he1⟩ := run_bind he
  obtain ⟨ps, h2, he2⟩ := run_bind he1
  clear he he1
  split at he2
  · simp [Rd.run] at he2
  · rename_i hc
    simp only [Bool.or_eq_true, not_or, Bool.not_eq_true, List.isEmpty_eq_false_iff, List.any_eq_false] at hc
    obtain ⟨c1, c2⟩ := hc
    split at he2
    · rename_i cs hcs
      simp only [Rd.run, Option.some.injEq] at he2
      have ti := ht _ _ (run_of h1)
      obtain ⟨inf, zv, i1, i2, i3, i4, i5, i6, i7, i8⟩ := ti.info
      obtain ⟨fs, u1, u2⟩ := ti.places c1
      have hp := buildParts_ok h.frame h2
      have hp2 : All2 (fun p v => p.1 = v.1 ∧ All2 (Q1 ⟨szOf E, w.heap, Inow z w (FS ++ []), rt, gh⟩ (Stm tick rt)) p.2 v.2.cells.toList) (ps.map fun p => (p.1, partCells (zeroAt i p.1) p.2)) (parts.toList.map fun p => (p.1, a.eval p.2)) := by
        have : ∀ {ps : List (Nat × T)} {vs : List (Nat × Value)}, (∀ p, p ∈ ps → isDead p.2 = false) → All2 (fun p v => p.1 = v.1 ∧ okX ⟨szOf E, w.heap, Inow z w (FS ++ []), rt, gh⟩ p.2 v.2 ∧ stX (Stm tick rt) p.2) ps vs →
            All2 (fun p v => p.1 = v.1 ∧ All2 (Q1 ⟨szOf E, w.heap, Inow z w (FS ++ []), rt, gh⟩ (Stm tick rt)) p.2 v.2.cells.toList) (ps.map fun p => (p.1, partCells (zeroAt i p.1) p.2)) vs := by
          intro ps
          induction ps with
          | nil => intro vs _ h; exact h
          | cons p ps ih =>
            intro vs hd h
            obtain ⟨v, vs', rfl, ⟨q1, q2, q3⟩, q4⟩ := h
            obtain ⟨m1, m2⟩ := part_cells (zero := zeroAt i p.1) q2 q3 (fun hh => by have := hd p (by simp); rw [hh] at this; simp [isDead] at this)
            exact ⟨v, vs', rfl, ⟨q1, m1.Q1 m2⟩, ih (fun p hp => hd p (by simp [hp])) q4⟩
        exact this (fun p hp => by have := c2 p hp; simpa using this) hp
      have hz : All2 (Q1 ⟨szOf E, w.heap, Inow z w (FS ++ []), rt, gh⟩ (Stm tick rt)) i.zero zv.cells.toList := by
        obtain ⟨m1, m2⟩ := okL_0 (x := ⟨szOf E, w.heap, Inow z w (FS ++ []), rt, gh⟩) (S := Stm tick rt) (i7 w.heap (Inow z w (FS ++ [])))
        exact m1.Q1 m2
      obtain ⟨us, g1, g2⟩ := fillParts_ok hcs hz hp2
      have hrun : (execOp a.eval o).run E.P w = .ok (.value (.agg us)) w := by
        have hzv : (zeroValue ty).run E.P w = .ok zv w := by simp [zeroValue, run_typeInfo i1, i4]
        simp only [execOp, ho, Instr.build, Sem.run_bind, hzv, Result.andThen_ok, run_underlying u1, u2, Array.toList_map]
        rw [g1]
        rfl
      refine says_slot (ss := []) (e0 := rooted d tick (.agg cs)) (u := .agg us) (w1 := w) (gh1 := gh) (I1 := Inow z w (FS ++ ([] ++ []))) hrun ?_ ?_ ?_ (h.heap.keeps_refl _ fun b hb => hb) ?_
      · rw [← he2]; exact rooted_sets
      · rw [← he2]
      · rw [← he2]
      · have := slot_agg (d := d) (tick := tick) (f := []) (floats0 h.heap) (okMix_All2.2 g2) (fun ha r0 h0 => newOk_lt (ss := []) (hd.new ⟨tick, tick, false, cs.map bare⟩ (by rw [← he2]; simp [rooted, ha])) h0)
        rwa [Array.toArray_toList] at this
    · simp [Rd.run] at he2
end lit
end Go.TM

/- Slice literals. -/
namespace Go.TM
open Go

def okParts (sz : TypeId → Nat) (h : Array Obj) (I : Nat → Prop) : List (Nat × List T) → List (Nat × Value) → List Nat → Prop
  | [], vs, f => vs = [] ∧ f = []
  | p :: ps, vs, f => ∃ v vs' f1 f2, vs = v :: vs' ∧ f = f1 ++ f2 ∧ p.1 = v.1 ∧ okL sz h I p.2 v.2.cells.toList f1 ∧ okParts sz h I ps vs' f2

theorem okParts_agree {sz h h' I I'} : ∀ {ps vs f}, Agree h h' I I' f → okParts sz h I ps vs f → okParts sz h' I' ps vs f
  | [], vs, f, _, hk => hk
  | p :: ps, vs, f, ha, hk => by
    obtain ⟨v, vs', f1, f2, rfl, rfl, h1, h2, h3⟩ := hk
    exact ⟨v, vs', f1, f2, rfl, rfl, h1, okL_agree ha.left h2, okParts_agree ha.right h3⟩

theorem fillElems_ok {sz hp I} {s : Nat} : ∀ {ps : List (Nat × List T)} {vps : List (Nat × Value)} {es es' : List (List T)} {l : Array Value} {f0 f : List Nat}, fillElems s es ps = some es' →
    okEs sz hp I s es l.toList f0 → l.size = es.length * s → okParts sz hp I ps vps f →
    ∃ l' f', Instr.fill (fun i => some (i * s, s)) l vps = some l' ∧ okEs sz hp I s es' l'.toList f' ∧ l'.size = es'.length * s ∧ es'.length = es.length ∧ ∀ x, f'.count x ≤ f0.count x + f.count x
  | [], vps, es, es', l, f0, f, h, hk, hl, hpp => by
    obtain ⟨rfl, rfl⟩ := hpp
    simp only [fillElems, Option.some.injEq] at h; subst h
    exact ⟨l, f0, rfl, hk, hl, rfl, fun x => by simp⟩
  | (k, xs) :: ps, vps, es, es', l, f0, f, h, hk, hl, hpp => by
    obtain ⟨⟨k', v⟩, vps', f1, f2, rfl, rfl, rfl, h1, h2⟩ := hpp
    simp only [fillElems] at h
    split at h
    · rename_i hc
      obtain ⟨c1, c2⟩ := hc
      dsimp only at h1
      have l2 : v.cells.size = xs.length := by have := okL_length h1; rwa [Array.length_toList] at this
      have hle : (k + 1) * s ≤ es.length * s := Nat.mul_le_mul_right _ c2
      rw [Nat.succ_mul] at hle
      have hfit : k * s + v.cells.size ≤ l.size := by omega
      have hfc := fill_cells hfit
      generalize hl1 : (v.cells.zipIdx.foldl (fun cs (c, j) => cs.setIfInBounds (k * s + j) c) l) = l1 at hfc
      have hg : es[k]? = some es[k] := by simp [c2]
      obtain ⟨fo, fr, g0, g1, g2, g3⟩ := okEs_focus hk hg
      have hll : l.toList.length = l.size := Array.length_toList
      have hvl : v.cells.toList.length = s := by rw [Array.length_toList]; omega
      have e1 : (l1.toList.drop (k * s)).take s = v.cells.toList := by
        rw [hfc, List.append_assoc, List.drop_append_of_le_length (by rw [List.length_take]; omega), List.drop_take, Nat.sub_self, List.take_zero, List.nil_append, List.take_append_of_le_length (by omega), List.take_of_length_le (by omega)]
      have e2 : l1.toList.take (k * s) = l.toList.take (k * s) := by
        rw [hfc, List.append_assoc, List.take_append_of_le_length (by rw [List.length_take]; omega), List.take_take, Nat.min_self]
      have e3 : l1.toList.drop (k * s + s) = l.toList.drop (k * s + s) := by
        rw [hfc, List.drop_append, List.drop_of_length_le (by rw [List.length_append, List.length_take]; omega), List.nil_append, List.drop_drop]
        congr 1
        rw [List.length_append, List.length_take]; omega
      obtain ⟨fs', q1, q2⟩ := g3 hp I xs l1.toList f1 ⟨fun b hb => ⟨hb, rfl⟩, fun b _ => rfl⟩ c1 (by rw [e1]; exact h1) e2 e3
      have hl1s : l1.size = (es.set k xs).length * s := by
        have := congrArg List.length hfc
        rw [Array.length_toList, List.length_append, List.length_append, List.length_take, List.length_drop] at this
        rw [List.length_set]; omega
      obtain ⟨l', f', m1, m2, m3, m4, m5⟩ := fillElems_ok h q1 hl1s h2
      refine ⟨l', f', ?_, m2, m3, by rw [m4, List.length_set], fun x => ?_⟩
      · unfold Instr.fill
        simp only
        rw [if_neg (by simp; omega), hl1]
        exact m1
      · have a1 := m5 x
        have a2 := q2 x
        have a3 := g1 x
        simp only [List.count_append]
        omega
    · simp at h

section lit
variable {E : Env} {z : Zn} {n tick : Nat} {fr : List (Nat × T)} {rt : List (Nat × Root)} {gh : Nat → G} {w : World} {FS : List Nat} {a : Act}
variable {call : FuncId → List Arg → Option Res} {me : FuncId} {d : Nat} {ty0 : TypeId} {e : Eff} {o : Oper}

theorem elems_ok {sz : TypeId → Nat} {tk : Nat → Bool} {zero : List T} {rt0 : List (Nat × Root)} : ∀ {ps : List (Nat × T)} {vs : List (Nat × Value)} {xs : List (Nat × List T)} {ss : List CSet} {rt1 FS1 X D}, HRel sz z rt1 gh w FS1 X → Pres D rt0 rt1 →
    (evElems tk zero ps).run rt0 = some (xs, ss) → setsApart ss = true → (∀ s, s ∈ ss → (s.d, s.c) ∉ D) →
    All2 (fun p v => p.1 = v.1 ∧ okX ⟨sz, w.heap, Inow z w (FS1 ++ X), rt1, gh⟩ p.2 v.2 ∧ stX (Stm tick rt1) p.2) ps vs →
    ∃ FS' f, HRel sz z (setCells tick rt1 ss) gh w FS' (f ++ X) ∧
      Keeps ⟨sz, w.heap, Inow z w (FS1 ++ X), rt1, gh⟩ ⟨sz, w.heap, Inow z w (FS' ++ (f ++ X)), setCells tick rt1 ss, gh⟩ (Stm tick rt1) ∧
      okParts sz w.heap (Inow z w (FS' ++ (f ++ X))) xs vs f
  | [], vs, xs, ss, rt1, FS1, X, D, r, p, h, _, _, hv => by
    simp only [evElems, Rd.run, Option.some.injEq, Prod.mk.injEq] at h
    obtain ⟨rfl, rfl⟩ := h
    simp only [All2] at hv; subst hv
    exact ⟨FS1, [], r, r.keeps_refl _ fun b hb => hb, rfl, rfl⟩
  | (k, t) :: ps, vs, xs, ss, rt1, FS1, X, D, r, p, h, hap, hD, hv => by
    simp only [evElems] at h
    obtain ⟨⟨ts, s1⟩, h1, h2⟩ := run_bind h
    obtain ⟨⟨rs, s2⟩, h3, h4⟩ := run_bind h2
    simp only [Rd.run, Option.some.injEq, Prod.mk.injEq] at h4
    obtain ⟨rfl, rfl⟩ := h4
    obtain ⟨⟨k', v⟩, vs', rfl, ⟨rfl, q2, q3⟩, q4⟩ := hv
    dsimp only at q2 q3 h1 h3
    obtain ⟨a1, a2, a3⟩ := setsApart_append hap
    obtain ⟨p1, p2⟩ := part_cells (zero := zero) q2 q3 (fun hd => inline_dead (hd ▸ h1))
    obtain ⟨FS2, f, L, g1, g2⟩ := inlineL_ok (tick := tick) r p h1 a1 (fun s hs => hD s (by simp [hs])) p1 p2
    have hv2 : All2 (fun p v => p.1 = v.1 ∧ okX ⟨sz, w.heap, Inow z w (FS2 ++ (f ++ X)), setCells tick rt1 s1, gh⟩ p.2 v.2 ∧ stX (Stm tick (setCells tick rt1 s1)) p.2) ps vs' :=
      q4.imp fun p v _ hpv => ⟨hpv.1, L.keeps.x hpv.2.2 hpv.2.1, by
        have hm := hpv.2.2
        have st0m : ∀ t, st0 (Stm tick rt1) t → st0 (Stm tick (setCells tick rt1 s1)) t := fun t ht => by cases t <;> first | trivial | exact Stm_sets _ _ ht
        have st1m : ∀ t, st1 (Stm tick rt1) t → st1 (Stm tick (setCells tick rt1 s1)) t := fun t ht => by
          cases t <;> first | trivial | exact Stm_sets _ _ ht | exact fun c hc => st0m c (ht c hc)
        generalize p.2 = t2 at hm
        cases t2 <;> first | trivial | exact Stm_sets _ _ hm | exact fun c hc => st0m c (hm c hc) | exact fun c hc => st1m c (hm c hc)⟩
    obtain ⟨FS3, f3, r3, k3, o3⟩ := elems_ok L.rel L.pres h3 a2 (fun s hs => by
      have h1 := hD s (by simp [hs])
      have h2 := a3 s hs
      simp only [List.mem_append, not_or]
      exact ⟨h2, h1⟩) hv2
    have hrt : setCells tick rt1 (s1 ++ s2) = setCells tick (setCells tick rt1 s1) s2 := setCells_append
    obtain ⟨r4, hI⟩ := r3.perm (X' := (f ++ f3) ++ X) fun x => by simp only [List.count_append]; omega
    refine ⟨FS3, f ++ f3, by rw [hrt]; exact r4, ?_, (k, v), vs', f, f3, rfl, rfl, rfl, ?_, ?_⟩
    · rw [hrt]
      exact (L.keeps.trans k3 fun a b h => Stm_sets a b h).trans (r3.keeps_refl (Stm tick rt1) fun b hb => (hI b).1 hb) fun _ _ h => h
    · exact okL_agree ⟨fun b hb => ⟨(hI b).1 (k3.old b hb).1, rfl⟩, fun b _ => rfl⟩ g1
    · exact okParts_agree ⟨fun b hb => ⟨(hI b).1 hb, rfl⟩, fun b _ => rfl⟩ o3

theorem op_buildSlice {ty : TypeId} {nn : Nat} {parts : Array (Nat × Operand)} (ht : TiOk E) (h : Here E z n tick fr rt gh w FS a) (ho : o.op = .buildSlice ty nn parts) (hd : EffOk tick rt d e)
    (he : (evOp E call me (St.val fr) tick d ty0 (.buildSlice ty nn parts)).run rt = some e) :
    Says E z tick rt gh w FS d e (execOp a.eval o) := by
  simp only [evOp] at he
  obtain ⟨i, h1, he1⟩ := run_bind he
  obtain ⟨el, h2, he2⟩ := run_bind he1
  obtain ⟨ie, h3, he3⟩ := run_bind he2
  obtain ⟨ps, h4, he4⟩ := run_bind he3
  obtain ⟨⟨xs, ss⟩, h5, he5⟩ := run_bind he4
  clear he he1 he2 he3 he4
  split at he5
  · rename_i hc
    simp only [Bool.and_eq_true, decide_eq_true_eq] at hc
    obtain ⟨_, c2⟩ := hc
    split at he5
    · rename_i es hes
      simp only [Rd.run, Option.some.injEq] at he5
      have hu := (ht _ _ (run_of h1)).elem el (run_of h2)
      have te := ht _ _ (run_of h3)
      obtain ⟨inf, zv, i1, i2, i3, i4, i5, i6, i7, i8⟩ := te.info
      have hsz : szOf E el = ie.size := by simp [szOf, run_of h3]
      have hsets : e.sets = ss := by rw [← he5, with_sets.2.2, rooted_sets]; rfl
      have hval : e.val = (rooted d tick (.own el es)).val := by rw [← he5]; rfl
      have hroot : e.root = (rooted d tick (.own el es)).root := by rw [← he5]; rfl
      obtain ⟨FS', f, r, kp, hp⟩ := elems_ok (tick := tick) (D := []) h.heap (Pres.refl rt) h5 (by rw [← hsets]; exact hd.apart) (fun s _ => by simp) (buildParts_ok h.frame h4)
      have hz : okEs (szOf E) w.heap (Inow z w (FS' ++ (f ++ []))) ie.size (List.replicate nn ie.zero) ((Array.range (nn * ie.size)).map (zv.cells[· % zv.cells.size]!)).toList [] :=
        okEs_replicate (i7 _ _) i6 (by simpa using i5) _ (zeros_row i5)
      obtain ⟨l', f', g1, g2, g3, g4, g5⟩ := fillElems_ok hes hz (by simp) hp
      rw [List.length_replicate] at g4
      have hrun : (execOp a.eval o).run E.P w = .ok (.value (.slice (some ⟨w.heap.size, 0, none⟩) nn nn)) (w.alloc (.cells l' el (0, 0))) := by
        have hsm : ¬ (nn * ie.size > 2 ^ 24) := by simpa using c2
        by_cases h0 : nn * ie.size = 0
        · have hfill : ∀ arr0 : Array Value, arr0.size = 0 → Instr.fill (fun i => some (i * ie.size, ie.size)) arr0 (parts.toList.map fun p => (p.1, a.eval p.2)) = some l' := fun arr0 ha => by
            rw [Array.eq_empty_of_size_eq_zero ha]
            rw [h0] at g1
            rwa [Array.eq_empty_of_size_eq_zero (show ((Array.range 0).map (zv.cells[· % zv.cells.size]!)).size = 0 by simp)] at g1
          simp only [execOp, ho, Instr.buildSlice, Sem.run_bind, run_underlying hu, Result.andThen_ok, te.size, h0, if_true, Sem.run_pure, Array.toList_map]
          simp [hfill, newRow]
        · simp only [execOp, ho, Instr.buildSlice, Sem.run_bind, run_underlying hu, Result.andThen_ok, te.size, hsm, if_false, h0, Array.toList_map]
          simp [zeroValue, run_typeInfo i1, i4, g1, newRow]
      obtain ⟨r', hI⟩ := fewer_floats (X' := f' ++ []) r (fun x => by have := g5 x; simp only [List.count_append, List.count_nil] at *; omega)
      obtain ⟨gh', FS2, p1, p2, p3, p4⟩ := slot_slice (d := d) (tick := tick) (el := el) (e' := el) (es := es) (cap := nn) (arr := l') (fz := (0, 0)) (f := f') r'
        (by rw [hsz]; exact okEs_agree ⟨fun b hb => ⟨hI b hb, rfl⟩, fun b _ => rfl⟩ g2) (by omega) (by rw [hsz, g3, g4]; exact Nat.le_refl _)
        (fun r0 h0 => newOk_lt (ss := ss) (hd.new _ hroot) h0) (fun i _ h => by omega)
      rw [g4] at p3
      unfold Says
      rw [hrun]
      show Done _ _ _ _ _ _ _ _ _ _ _
      rw [rtOf_eq, hsets, hval, hroot]
      exact ⟨gh', FS2, p1, (kp.trans (r.keeps_refl (Stm tick rt) hI) fun _ _ h => h).trans p2 fun a b h => Stm_sets a b h, p3, p4⟩
    · simp [Rd.run] at he5
  · simp [Rd.run] at he5
end lit
end Go.TM

/- Stores. -/
namespace Go.TM
open Go

theorem okL_split {sz h I} : ∀ {c1 c2 us f}, okL sz h I (c1 ++ c2) us f → ∃ u1 u2 f1 f2, us = u1 ++ u2 ∧ f = f1 ++ f2 ∧ u1.length = c1.length ∧ okL sz h I c1 u1 f1 ∧ okL sz h I c2 u2 f2
  | [], c2, us, f, hk => ⟨[], us, [], f, rfl, rfl, rfl, by simp [okL], hk⟩
  | c :: c1, c2, us, f, hk => by
    simp only [List.cons_append, okL] at hk
    obtain ⟨u, us', f1, f2, rfl, rfl, h1, h2⟩ := hk
    obtain ⟨u1, u2, f3, f4, rfl, rfl, hl, h3, h4⟩ := okL_split h2
    exact ⟨u :: u1, u2, f1 ++ f3, f4, rfl, by simp, by simp [hl], by simp only [okL]; exact ⟨u, u1, f1, f3, rfl, rfl, h1, h3⟩, h4⟩

theorem okL_app {sz h I} : ∀ {c1 c2 u1 u2 f1 f2}, okL sz h I c1 u1 f1 → okL sz h I c2 u2 f2 → okL sz h I (c1 ++ c2) (u1 ++ u2) (f1 ++ f2)
  | [], c2, u1, u2, f1, f2, h1, h2 => by simp only [okL] at h1; obtain ⟨rfl, rfl⟩ := h1; simpa using h2
  | c :: c1, c2, u1, u2, f1, f2, h1, h2 => by
    simp only [okL] at h1
    obtain ⟨u, us', f3, f4, rfl, rfl, h3, h4⟩ := h1
    simp only [List.cons_append, okL]
    exact ⟨u, us' ++ u2, f3, f4 ++ f2, rfl, by simp, h3, okL_app h4 h2⟩

theorem okL_splice {sz h I} {cs us f xs vs fx} {off : Nat} (hk : okL sz h I cs us f) (hx : okL sz h I xs vs fx) (hle : off + xs.length ≤ cs.length) :
    ∃ f1, (∀ b, f1.count b ≤ f.count b + fx.count b) ∧ okL sz h I (splice cs off xs) (us.take off ++ vs ++ us.drop (off + vs.length)) f1 := by
  have hl := okL_length hk
  have hxl := okL_length hx
  have e1 : cs = cs.take off ++ ((cs.drop off).take xs.length ++ cs.drop (off + xs.length)) := by
    rw [← List.drop_drop, List.take_append_drop, List.take_append_drop]
  rw [e1] at hk
  obtain ⟨u1, u23, f1, f23, rfl, rfl, l1, h1, h23⟩ := okL_split hk
  obtain ⟨u2, u3, f2, f3, rfl, rfl, l2, h2, h3⟩ := okL_split h23
  rw [List.length_take] at l1
  rw [List.length_take, List.length_drop] at l2
  have e2 : (u1 ++ (u2 ++ u3)).take off = u1 := by rw [List.take_append_of_le_length (by omega), List.take_of_length_le (by omega)]
  have e3 : (u1 ++ (u2 ++ u3)).drop (off + vs.length) = u3 := by
    rw [← List.append_assoc, List.drop_append_of_le_length (by rw [List.length_append]; omega), List.drop_of_length_le (by rw [List.length_append]; omega), List.nil_append]
  refine ⟨f1 ++ fx ++ f3, fun b => by simp only [List.count_append]; omega, ?_⟩
  rw [e2, e3]
  exact okL_app (okL_app h1 hx) h3

/-- Cells that were not turned keep their headers. -/
theorem skL_app {sz h' h} : ∀ {c1 c2 d1 d2 : List T} {u1 u2 v1 v2 : List Value}, skL sz h' h c1 d1 u1 v1 → c1.length = d1.length → c1.length = u1.length → c1.length = v1.length → skL sz h' h c2 d2 u2 v2 → skL sz h' h (c1 ++ c2) (d1 ++ d2) (u1 ++ u2) (v1 ++ v2)
  | [], c2, d1, d2, u1, u2, v1, v2, _, h2, h3, h4, h5 => by
    have : d1 = [] := List.length_eq_zero_iff.1 h2.symm
    have : u1 = [] := List.length_eq_zero_iff.1 h3.symm
    have : v1 = [] := List.length_eq_zero_iff.1 h4.symm
    subst_vars
    simpa using h5
  | c :: c1, c2, d1, d2, u1, u2, v1, v2, h1, h2, h3, h4, h5 => by
    simp only [skL] at h1
    obtain ⟨d, dt, u, ut, v, vt, rfl, rfl, rfl, g1, g2, g3⟩ := h1
    simp only [List.length_cons, Nat.add_right_cancel_iff] at h2 h3 h4
    simp only [List.cons_append, skL]
    exact ⟨d, _, u, _, v, _, rfl, rfl, rfl, g1, g2, skL_app g3 h2 h3 h4 h5⟩

theorem skL_none {sz h' h} : ∀ {c1 d1 : List T} {u1 v1 : List Value}, anyOwn c1 = false → c1.length = d1.length → c1.length = u1.length → c1.length = v1.length → skL sz h' h c1 d1 u1 v1
  | [], d1, u1, v1, _, _, _, _ => by simp [skL]
  | c :: c1, [], u1, v1, _, h2, _, _ => by simp at h2
  | c :: c1, d :: d1, [], v1, _, _, h3, _ => by simp at h3
  | c :: c1, d :: d1, u :: u1, [], _, _, _, h4 => by simp at h4
  | c :: c1, d :: d1, u :: u1, v :: v1, h1, h2, h3, h4 => by
    simp only [anyOwn, Bool.or_eq_false_iff] at h1
    simp only [List.length_cons, Nat.add_right_cancel_iff] at h2 h3 h4
    simp only [skL]
    exact ⟨d, d1, u, u1, v, v1, rfl, rfl, rfl, fun h => by rw [h1.1] at h; simp at h, skV_of_not h1.1, skL_none h1.2 h2 h3 h4⟩

theorem skL_splice {sz h h' I} {cs us f xs vs} {off : Nat} (hk : okL sz h I cs us f) (ha : ∀ b, b ∈ f → h'[b]? = h[b]?) (hx : anyOwn xs = false) (hv : vs.length = xs.length) (hle : off + xs.length ≤ cs.length) :
    skL sz h' h (splice cs off xs) cs (us.take off ++ vs ++ us.drop (off + vs.length)) us := by
  have hl := okL_length hk
  have e1 : cs = cs.take off ++ ((cs.drop off).take xs.length ++ cs.drop (off + xs.length)) := by
    rw [← List.drop_drop, List.take_append_drop, List.take_append_drop]
  have hk2 := hk
  rw [e1] at hk2
  obtain ⟨u1, u23, f1, f23, rfl, rfl, l1, h1, h23⟩ := okL_split hk2
  obtain ⟨u2, u3, f2, f3, rfl, rfl, l2, h2, h3⟩ := okL_split h23
  have hl1 : u1.length = off := by rw [List.length_take] at l1; omega
  have hl2 : u2.length = xs.length := by rw [List.length_take, List.length_drop] at l2; omega
  have e2 : (u1 ++ (u2 ++ u3)).take off = u1 := by rw [List.take_append_of_le_length (by omega), List.take_of_length_le (by omega)]
  have e3 : (u1 ++ (u2 ++ u3)).drop (off + vs.length) = u3 := by
    rw [← List.append_assoc, List.drop_append_of_le_length (by rw [List.length_append]; omega), List.drop_of_length_le (by rw [List.length_append]; omega), List.nil_append]
  rw [e2, e3]
  have key := skL_app (h' := h') (h := h) (sz := sz) (skL_refl (fun b hb => ha b (by simp [hb])) h1) rfl l1.symm l1.symm
    (skL_app (skL_none (c1 := xs) (d1 := (cs.drop off).take xs.length) (u1 := vs) (v1 := u2) hx (by rw [List.length_take, List.length_drop]; omega) hv.symm hl2.symm) (by rw [List.length_take, List.length_drop]; omega) hv.symm hl2.symm
      (skL_refl (fun b hb => ha b (by simp [hb])) h3))
  have e4 : splice cs off xs = cs.take off ++ (xs ++ cs.drop (off + xs.length)) := by unfold splice; rw [List.append_assoc]
  rw [e4, List.append_assoc]
  have e5 : skL sz h' h (cs.take off ++ (xs ++ cs.drop (off + xs.length))) cs (u1 ++ (vs ++ u3)) (u1 ++ (u2 ++ u3)) = skL sz h' h (cs.take off ++ (xs ++ cs.drop (off + xs.length))) (cs.take off ++ ((cs.drop off).take xs.length ++ cs.drop (off + xs.length))) (u1 ++ (vs ++ u3)) (u1 ++ (u2 ++ u3)) := by
    rw [← e1]
  rw [e5]
  exact key
end Go.TM

/- Stores: the operation. -/
namespace Go.TM
open Go

/-- Cells of a box turned, one by one. -/
theorem setRow_ok {sz z} {tick d b : Nat} : ∀ {xs : List T} {vs : List Value} {f : List Nat} {rt gh w FS X off ro}, HRel sz z rt gh w FS (f ++ X) → okL sz w.heap (Inow z w (FS ++ (f ++ X))) xs vs f →
    lk rt d = some ro → (gh d).blk = some b → off + xs.length ≤ ro.cells.length → (anyOwn xs = true → ro.ver < tick) →
    ∃ gh' FS', HRel sz z (setCells tick rt (setRow d off xs)) gh' (stores w b off vs) FS' X ∧
      Keeps ⟨sz, w.heap, Inow z w (FS ++ (f ++ X)), rt, gh⟩ ⟨sz, (stores w b off vs).heap, Inow z (stores w b off vs) (FS' ++ X), setCells tick rt (setRow d off xs), gh'⟩ (Stm tick rt)
  | [], vs, f, rt, gh, w, FS, X, off, ro, r, hk, hl, hb, hle, ha => by
    simp only [okL] at hk
    obtain ⟨rfl, rfl⟩ := hk
    exact ⟨gh, FS, r, r.keeps_refl _ fun b hb => hb⟩
  | x :: xs, vs, f, rt, gh, w, FS, X, off, ro, r, hk, hl, hb, hle, ha => by
    simp only [okL] at hk
    obtain ⟨v, vs', f1, f2, rfl, rfl, h1, h2⟩ := hk
    simp only [List.length_cons] at hle
    have hr : HRel sz z rt gh w FS (f1 ++ (f2 ++ X)) ∧ ∀ b, Inow z w (FS ++ ((f1 ++ f2) ++ X)) b ↔ Inow z w (FS ++ (f1 ++ (f2 ++ X))) b := r.perm fun y => by simp only [List.count_append]; omega
    obtain ⟨r1, hI⟩ := hr
    have hc : ro.cells[off]? = some ro.cells[off] := by
      have : off < ro.cells.length := by omega
      simp [this]
    obtain ⟨FS1, arr, el, fz, q1, q2, q3, q4, q5⟩ := r1.set_top (tick := tick) (hv := if isOwn x then tick else ro.hver) (t' := x) (v := v) hl hb hc (okV_agree ⟨fun b hb => ⟨(hI b).1 hb, rfl⟩, fun b _ => rfl⟩ h1) (by
      cases hx : isOwn x with
      | true => exact .inr ⟨rfl, ha (by simp [anyOwn, hx])⟩
      | false => exact .inl ⟨rfl, rfl⟩)
    have hrt : setCell tick rt ⟨d, off, x, isOwn x⟩ = up rt d { ro with cells := ro.cells.set off x, hver := if isOwn x then tick else ro.hver } := by
      unfold setCell; simp only [hl]
    rw [← hrt] at q4 q5
    have hbF : b ∈ FS := by
      obtain ⟨f0, g1, g2⟩ := okRts_get r.roots hl
      unfold okRoot at g1
      rw [hb] at g1
      obtain ⟨_, fs', _, _, _, rfl, _⟩ := g1
      exact g2 b (by simp)
    have hbf : ∀ y, y ∈ f2 → y ≠ b := fun y hy he => by
      subst he
      have := r.uniq y
      have h3 := List.count_pos_iff.2 hy
      have h4 := List.count_pos_iff.2 hbF
      simp only [List.count_append] at this
      omega
    have hk2 : okL sz (w.setCell ⟨b, off, none⟩ v).heap (Inow z (w.setCell ⟨b, off, none⟩ v) (FS1 ++ (f2 ++ X))) xs vs' f2 :=
      okL_agree ⟨fun y hy => q5.old y ((hI y).1 hy), fun y hy => heap_setCell_ne (hbf y hy)⟩ h2
    have hl2 : lk (setCell tick rt ⟨d, off, x, isOwn x⟩) d = some { ro with cells := ro.cells.set off x, hver := if isOwn x then tick else ro.hver } := by rw [hrt, lk_up_self]
    obtain ⟨gh', FS', m1, m2⟩ := setRow_ok (b := b) (off := off + 1) q4 hk2 hl2 (by simp [gset]) (by show off + 1 + xs.length ≤ (ro.cells.set off x).length; rw [List.length_set]; omega) (fun h => ha (by simp [anyOwn, h]))
    refine ⟨gh', FS', m1, ?_⟩
    have k0 : Keeps ⟨sz, w.heap, Inow z w (FS ++ ((f1 ++ f2) ++ X)), rt, gh⟩ ⟨sz, w.heap, Inow z w (FS ++ (f1 ++ (f2 ++ X))), rt, gh⟩ (Stm tick rt) := r.keeps_refl _ fun b hb => (hI b).1 hb
    exact (k0.trans q5 fun _ _ h => h).trans m2 fun a b h => Stm_set a b h

theorem rdCells_len {rt : List (Nat × Root)} {d ver off n : Nat} {cs : List T} (h : (rdCells d ver off n).run rt = some cs) (hn : 0 < n) : ∃ r, lk rt d = some r ∧ r.ver = ver ∧ off + n ≤ r.cells.length := by
  obtain ⟨r, h1, h2, h3, _⟩ := rdCells_run h hn
  exact ⟨r, h1, h2, h3⟩

theorem setsOk_mem {tick rt} : ∀ {ss : List CSet}, setsOk tick rt ss = true → ∀ s, s ∈ ss → s.hdr = true → ∃ r, lk rt s.d = some r ∧ r.ver < tick
  | [], _, s, hs, _ => by simp at hs
  | s0 :: ss, h, s, hs, hh => by
    simp only [setsOk, Bool.and_eq_true, Bool.or_eq_true, Bool.not_eq_true'] at h
    obtain ⟨h1, h2⟩ := h
    rcases List.mem_cons.1 hs with rfl | hs
    · rcases h1 with h1 | h1
      · rw [hh] at h1; simp at h1
      · split at h1
        · rename_i r hr
          exact ⟨r, hr, by simpa using h1⟩
        · simp at h1
    · exact setsOk_mem h2 s hs hh

theorem setsOk_append {tick rt} : ∀ {a b : List CSet}, setsOk tick rt (a ++ b) = true → setsOk tick rt b = true
  | [], b, h => h
  | s :: a, b, h => by
    simp only [List.cons_append, setsOk, Bool.and_eq_true] at h
    exact setsOk_append h.2

theorem setRow_any {d : Nat} : ∀ {xs : List T} {off : Nat}, anyOwn xs = true → ∃ s, s ∈ setRow d off xs ∧ s.hdr = true ∧ s.d = d
  | [], off, h => by simp [anyOwn] at h
  | x :: xs, off, h => by
    simp only [anyOwn, Bool.or_eq_true] at h
    rcases h with h | h
    · exact ⟨⟨d, off, x, isOwn x⟩, by simp [setRow], h, rfl⟩
    · obtain ⟨s, h1, h2, h3⟩ := setRow_any (d := d) (off := off + 1) h
      exact ⟨s, by simp [setRow, h1], h2, h3⟩

theorem setCell_len {tick rt s d r} (h : lk (setCell tick rt s) d = some r) : ∃ r0, lk rt d = some r0 ∧ r.cells.length = r0.cells.length := by
  unfold setCell at h
  cases hs : lk rt s.d with
  | none => rw [hs] at h; exact ⟨r, h, rfl⟩
  | some r1 =>
    rw [hs] at h
    by_cases hd : d = s.d
    · subst hd
      rw [lk_up_self] at h
      simp only [Option.some.injEq] at h; subst h
      exact ⟨r1, hs, by simp⟩
    · rw [lk_up_ne _ _ _ _ hd] at h
      exact ⟨r, h, rfl⟩

theorem setCells_len {tick} : ∀ {ss rt d r}, lk (setCells tick rt ss) d = some r → ∃ r0, lk rt d = some r0 ∧ r.cells.length = r0.cells.length
  | [], rt, d, r, h => ⟨r, h, rfl⟩
  | s :: ss, rt, d, r, h => by
    simp only [setCells] at h
    obtain ⟨r0, h1, h2⟩ := setCells_len h
    obtain ⟨r1, h3, h4⟩ := setCell_len h1
    exact ⟨r1, h3, h2.trans h4⟩

theorem graft_descend {g : List T → Option (List T)} : ∀ {path : List (Nat × Nat)} {cs cs' : List T}, graft g cs path = some cs' → ∃ c0 c1, descend cs path = some c0 ∧ g c0 = some c1
  | [], cs, cs', h => ⟨cs, cs', rfl, h⟩
  | (c, i) :: rest, cs, cs', h => by
    simp only [graft] at h
    split at h
    · rename_i e es h1
      split at h
      · rename_i cs1 h2
        split at h
        · rename_i cs2 h3
          obtain ⟨c0, c1, g1, g2⟩ := graft_descend h3
          exact ⟨c0, c1, by simp only [descend, h1, h2]; exact g1, g2⟩
        · simp at h
      · simp at h
    · simp at h

theorem row_splice {l vs : List Value} {o off len m : Nat} (_hm : o + m ≤ l.length) (hv : vs.length = len) (hle : off + len ≤ m) :
    l.take (o + off) ++ vs ++ l.drop (o + off + len) = l.take o ++ (((l.drop o).take m).take off ++ vs ++ ((l.drop o).take m).drop (off + len)) ++ l.drop (o + m) := by
  have e1 : l.take (o + off) = l.take o ++ (l.drop o).take off := by rw [List.take_add]
  have e2 : ((l.drop o).take m).take off = (l.drop o).take off := by rw [List.take_take, Nat.min_eq_left (by omega)]
  have e3 : ((l.drop o).take m).drop (off + len) ++ l.drop (o + m) = l.drop (o + off + len) := by
    rw [List.drop_take, List.drop_drop]
    have : l.drop (o + m) = (l.drop (o + (off + len))).drop (m - (off + len)) := by rw [List.drop_drop]; congr 1; omega
    rw [this, List.take_append_drop]
    congr 1; omega
  rw [e1, e2]
  simp only [List.append_assoc]
  rw [e3]

section st
variable {E : Env} {z : Zn} {n tick : Nat} {fr : List (Nat × T)} {rt : List (Nat × Root)} {gh : Nat → G} {w : World} {FS : List Nat} {a : Act}
variable {call : FuncId → List Arg → Option Res} {me : FuncId} {d : Nat} {ty0 : TypeId} {e : Eff} {o : Oper}

theorem run_storeAt {ty : TypeId} {i : TInfo} {v : Value} {b o' : Nat} {arr : Array Value} {el : TypeId} {fz : Nat × Nat} (ti : TOk E ty i) (hs : v.cells.size = i.size) (hb : w.heap[b]? = some (.cells arr el fz))
    (hfit : o' + i.size ≤ arr.size) (hfz : fzFree fz arr.size) (hone : ∀ u, u ∈ v.cells.toList → oneVal u = true) :
    (Instr.storeAt ty (.pointer (some ⟨b, o', none⟩)) v).run E.P w = .ok () (stores w b o' v.cells.toList) := by
  have h1 := run_storeCells_ok (P := E.P) (vs := v.cells.toList) (i := 0) (o := o') hb (by rw [Array.length_toList]; omega) hfz hone
  simp only [Instr.storeAt, Instr.sureAddr, storeVar, Sem.run_bind, Sem.run_pure, Result.andThen_ok, ti.size, hs]
  simpa using h1

theorem op_store {ty : TypeId} {p x : Operand} (ht : TiOk E) (h : Here E z n tick fr rt gh w FS a) (ho : o.op = .store ty p x) (hd : EffOk tick rt d e)
    (he : (evOp E call me (St.val fr) tick d ty0 (.store ty p x)).run rt = some e) :
    Says E z tick rt gh w FS d e (execOp a.eval o) := by
  simp only [evOp] at he
  obtain ⟨tp, h1, he1⟩ := run_bind he
  obtain ⟨t, h2, he2⟩ := run_bind he1
  obtain ⟨i, h3, he3⟩ := run_bind he2
  obtain ⟨⟨xs, ss⟩, h4, he4⟩ := run_bind he3
  clear he he1 he2 he3
  obtain ⟨kp1, kp2⟩ := h.frame.val (run_of h1)
  obtain ⟨kx1, kx2⟩ := h.frame.val (run_of h2)
  have ti := ht _ _ (run_of h3)
  clear h1
  split at he4
  · rename_i hlen
    dsimp only at hlen
    split at he4
    · rename_i d' ver path off
      obtain ⟨s, h5, he5⟩ := run_bind he4
      simp only [Rd.run, Option.some.injEq] at he5
      subst he5
      obtain ⟨a1, a2, a3⟩ := setsApart_append hd.apart
      obtain ⟨FS1, f, r1, k1, o1, one1⟩ := inline_part h kx1 kx2 h4 a1
      have hp : Pres (places ss) rt (setCells tick rt ss) := by
        obtain ⟨p1, p2⟩ := part_cells (zero := i.zero) kx1 kx2 (fun hh => inline_dead (hh ▸ h4))
        obtain ⟨FS', f', L, _, _⟩ := inlineL_ok (tick := tick) (D := []) h.heap (Pres.refl rt) h4 a1 (fun s _ => by simp) p1 p2
        simpa using L.pres
      have hvl : (a.eval x).cells.size = i.size := by have := okL_length o1; rw [Array.length_toList] at this; omega
      obtain ⟨⟨ad, hu⟩, kp⟩ := (k1.x kp2 kp1)
      have hsets : setsOk tick rt s = true := setsOk_append hd.sets
      have fin : ∀ {gh' FS' w'}, (Instr.storeAt ty (a.eval p) (a.eval x)).run E.P w = .ok () w' → HRel (szOf E) z (setCells tick (setCells tick rt ss) s) gh' w' FS' [] →
          Keeps ⟨szOf E, w.heap, Inow z w (FS1 ++ (f ++ [])), setCells tick rt ss, gh⟩ ⟨szOf E, w'.heap, Inow z w' (FS' ++ []), setCells tick (setCells tick rt ss) s, gh'⟩ (Stm tick (setCells tick rt ss)) →
          Says E z tick rt gh w FS d { val := .v undef, sets := ss ++ s } (execOp a.eval o) := by
        intro gh' FS' w' hrun hr hk
        have hrun2 : (execOp a.eval o).run E.P w = .ok .skip w' := by
          simp only [execOp, ho, Sem.run_bind, hrun, Result.andThen_ok]
          rfl
        unfold Says
        rw [hrun2]
        show Done _ _ _ _ _ _ _ _ _ _ _
        rw [rtOf_eq]
        refine ⟨gh', FS', ?_, ?_, okX_v.2 rfl, trivial⟩
        · show HRel _ _ (setCells tick rt (ss ++ s)) _ _ _ _
          rw [setCells_append]; exact hr
        · show Keeps _ ⟨_, _, _, setCells tick rt (ss ++ s), _⟩ _
          rw [setCells_append]; exact k1.trans hk fun a b h => Stm_sets a b h
      unfold wrRow at h5
      split at h5
      · obtain ⟨cs0, h6, h7⟩ := run_bind h5
        simp only [Rd.run, Option.some.injEq] at h7; subst h7
        have h6 : (rdCells d' ver off xs.length).run rt = some cs0 := h6
        by_cases hz : xs.length = 0
        · have hx0 : xs = [] := List.length_eq_zero_iff.1 hz
          subst hx0
          have hv0 : (a.eval x).cells.toList = [] := by simp only [okL] at o1; exact o1.1
          obtain ⟨r2, hI⟩ := drop_floats r1
          refine fin (gh' := gh) (FS' := FS1) (w' := w) ?_ r2 (r1.keeps_refl _ hI)
          rw [hu]
          simp only [Instr.storeAt, Instr.sureAddr, storeVar, Sem.run_bind, Sem.run_pure, Result.andThen_ok, ti.size, hvl, hv0]
          simp [storeCells]
        · obtain ⟨ro, g1, g2, g3⟩ := rdCells_len h6 (by omega)
          obtain ⟨ro1, g4, g5, g6, g7, g8⟩ := hp d' ro g1
          obtain ⟨b, hb, hub⟩ := kp ro1 g4 (by rw [g5]; exact g2)
          have hlen1 : ro1.cells.length = ro.cells.length := by
            obtain ⟨r0, y1, y2⟩ := setCells_len g4
            rw [g1] at y1
            simp only [Option.some.injEq] at y1
            rw [y2, y1]
          obtain ⟨gh', FS', m1, m2⟩ := setRow_ok (off := off) r1 o1 g4 hb (by omega) (fun ha => by
            obtain ⟨s, q1, q2, q3⟩ := setRow_any (d := d') (off := off) ha
            obtain ⟨r0, q4, q5⟩ := setsOk_mem hsets s q1 q2
            rw [q3, g1] at q4
            simp only [Option.some.injEq] at q4
            rw [g5, q4]; exact q5)
          obtain ⟨f0, w1, w2⟩ := okRts_get r1.roots g4
          unfold okRoot at w1
          rw [hb] at w1
          obtain ⟨_, fs', arr, el, fz, _, v1, v2, v3, v4⟩ := w1
          have hasz : arr.size = ro1.cells.length := by rw [← okL_length v4, ← v3]; exact Array.length_toList.symm
          have hlx : xs.length = i.size := hlen
          refine fin (gh' := gh') (FS' := FS') ?_ m1 m2
          rw [hub]
          exact run_storeAt ti hvl v1 (by omega) v2 one1
      · rename_i c0 i0 rest
        split at h5
        · obtain ⟨ro, t0, g1, g2, g3, g4⟩ := run_cell h5
          split at g4
          · rename_i t' hgr
            simp only [Rd.run, Option.some.injEq] at g4; subst g4
            obtain ⟨cs, cs1, d1, d2⟩ := graft_descend hgr
            split at d2
            · rename_i hle
              simp only [Option.some.injEq] at d2; subst d2
              have hle : off + xs.length ≤ cs.length := hle
              have hlx : xs.length = i.size := hlen
              obtain ⟨ro1, p4, p5, p6, p7, p8⟩ := hp d' ro g1
              have hc1 : ro1.cells[c0]? = some t0 := by
                rw [p8 c0 (a3 ⟨d', c0, t', anyOwn xs⟩ (by simp))]; exact g3
              obtain ⟨u0, b, o', arr, el, fz, fcs, m1, m2, m3, m4, m5, m6, m6', m7, m8, m9⟩ := r1.locate p4 hc1 d1
              have hub := kp ro1 p4 (by rw [p6]; exact g2) cs _ b o' (m9 _)
              have hvl2 : (a.eval x).cells.toList.length = xs.length := okL_length o1
              obtain ⟨arr', y1, y2, y3⟩ := stores_eq (vs := (a.eval x).cells.toList) (o := o' + off) m3 (by omega)
              obtain ⟨s1, s2, s3, s4⟩ := stores_same (b := b) (vs := (a.eval x).cells.toList) (w := w) (o := o' + off)
              have hal : arr.toList.length = arr.size := Array.length_toList
              have hu2 : ∀ y, y ∈ f → y ≠ b := fun y hy he => by
                subst he
                have := r1.uniq y
                have h3 := List.count_pos_iff.2 hy
                have h4 := List.count_pos_iff.2 m6
                simp only [List.count_append] at this
                omega
              have hnb : ∀ y, Inow z w (FS1 ++ (f ++ [])) y → y ≠ b := fun y hy he => by subst he; exact (r1.imm hy).2 (by simp [m6])
              have hl0 : ((arr.toList.drop o').take cs.length).length = cs.length := okL_length m7
              have hany : anyOwn xs = true → ro1.ver < tick := fun ha => by
                obtain ⟨r0, q4, q5⟩ := setsOk_mem hsets ⟨d', c0, t', anyOwn xs⟩ (by simp) ha
                rw [g1] at q4
                simp only [Option.some.injEq] at q4
                rw [p5, q4]; exact q5
              obtain ⟨FS', X', hX, w1, w2⟩ := HRel.nested (tick := tick) (hv := if anyOwn xs then tick else ro1.hver) (Ex := fun X' => X' = []) (cs1 := splice cs off xs) (vs1 := ((arr.toList.drop o').take cs.length).take off ++ (a.eval x).cells.toList ++ ((arr.toList.drop o').take cs.length).drop (off + (a.eval x).cells.toList.length)) (arr' := arr')
                (w' := stores w b (o' + off) (a.eval x).cells.toList) r1 p4 hc1 m1 d1 m2 m3 (by rw [if_pos hle]) (by unfold splice; simp only [List.length_append, List.length_take, List.length_drop]; omega) hgr s1 s2 s3 s4 (fun y hy => stores_ne hy) y1 y2
                (by rw [y3, hvl2]; exact row_splice (by omega) hvl2 hle) (by simp only [List.length_append, List.length_take, List.length_drop]; omega)
                (fun fc hfc hsub hbF hbf => by
                  obtain ⟨f1, c1, c2⟩ := okL_splice hfc o1 hle
                  refine ⟨f1, [], rfl, fun y => by have := c1 y; simp only [List.count_append, List.count_nil]; omega, okL_agree ⟨fun y hy => ⟨hy, stores_ne (hnb y hy)⟩, fun y hy => stores_ne fun he => ?_⟩ c2⟩
                  subst he
                  have h1 := c1 y
                  have h2 := List.count_pos_iff.2 hy
                  have h3 : fc.count y = 0 := List.count_eq_zero.2 hbf
                  have h4 : f.count y = 0 := List.count_eq_zero.2 fun hm => hu2 y hm rfl
                  omega)
                (by
                  cases hxx : anyOwn xs with
                  | true => exact .inr ⟨rfl, hany hxx⟩
                  | false => exact .inl ⟨rfl, skL_splice m7 (fun y hy => stores_ne fun he => by subst he; exact m6' hy) hxx hvl2 hle⟩)
              subst hX
              have hrt : setCells tick (setCells tick rt ss) [⟨d', c0, t', anyOwn xs⟩] = up (setCells tick rt ss) d' { ro1 with cells := ro1.cells.set c0 t', hver := if anyOwn xs then tick else ro1.hver } := by
                simp only [setCells, setCell, p4]
              refine fin (gh' := gh) (FS' := FS') (w' := stores w b (o' + off) (a.eval x).cells.toList) ?_ (by rw [hrt]; exact w1) (by rw [hrt]; exact w2)
              rw [hub]
              exact run_storeAt ti hvl m3 (by omega) m4 one1
            · simp at d2
          · simp [Rd.run] at g4
        · simp [Rd.run] at h5
    · simp [Rd.run] at he4
  · simp [Rd.run] at he4
end st
end Go.TM

/- What a call is told and gives back. -/
namespace Go.TM
open Go

mutual
theorem okV_clean {sz h I I'} : ∀ {t u f}, clean t = true → okV sz h I t u f → okV sz h I' t u f
  | .v x, u, f, _, hk => by simpa only [okV] using hk
  | .agg cs, u, f, hc, hk => by
    simp only [okV] at hk ⊢
    simp only [clean] at hc
    obtain ⟨us, h1, h2⟩ := hk
    exact ⟨us, h1, okL_clean hc h2⟩
  | .tup cs, u, f, hc, hk => by
    simp only [okV] at hk ⊢
    simp only [clean] at hc
    obtain ⟨us, h1, h2⟩ := hk
    exact ⟨us, h1, okL_clean hc h2⟩
  | .own e es, u, f, hc, hk => by
    simp only [okV] at hk ⊢
    simp only [clean] at hc
    rcases hk with hk | ⟨b, o, cap, arr, el, fz, fs', h1, h2, h3, h4, h5, rfl, h7⟩
    · exact .inl hk
    · exact .inr ⟨b, o, cap, arr, el, fz, fs', h1, h2, h3, h4, h5, rfl, okEs_clean hc h7⟩
  | .sl _ _, u, f, hc, _ => by simp [clean] at hc
  | .ref .., u, f, hc, _ => by simp [clean] at hc
  | .ptr .., u, f, hc, _ => by simp [clean] at hc
  | .ipt _, u, f, hc, _ => by simp [clean] at hc
  | .clo _ _, u, f, hc, _ => by simp [clean] at hc
  | .dead, u, f, hc, _ => by simp [clean] at hc
theorem okL_clean {sz h I I'} : ∀ {cs us f}, cleanL cs = true → okL sz h I cs us f → okL sz h I' cs us f
  | [], us, f, _, hk => by simpa only [okL] using hk
  | c :: cs, us, f, hc, hk => by
    simp only [okL] at hk ⊢
    simp only [cleanL, Bool.and_eq_true] at hc
    obtain ⟨u, us', f1, f2, h1, h2, h3, h4⟩ := hk
    exact ⟨u, us', f1, f2, h1, h2, okV_clean hc.1 h3, okL_clean hc.2 h4⟩
theorem okEs_clean {sz h I I'} {s : Nat} : ∀ {es l f}, cleanEs es = true → okEs sz h I s es l f → okEs sz h I' s es l f
  | [], l, f, _, hk => by simpa only [okEs] using hk
  | c :: es, l, f, hc, hk => by
    simp only [okEs] at hk ⊢
    simp only [cleanEs, Bool.and_eq_true] at hc
    obtain ⟨f1, f2, h1, h2, h3, h4⟩ := hk
    exact ⟨f1, f2, h1, h2, okL_clean hc.1 h3, okEs_clean hc.2 h4⟩
end

/-- An argument: sealed, or with the blocks f of the root that goes along. -/
def okArg (sz : TypeId → Nat) (h : Array Obj) (I : Nat → Prop) (i : Nat) (a : Arg) (u : Value) (f : List Nat) : Prop :=
  match a.root with
  | none => okV sz h I a.t u [] ∧ f = []
  | some r => ∃ g, okRoot sz h I g r f ∧ r.ver = 0 ∧ r.hver = 0 ∧
      ((r.real = true ∧ a.t = .ptr i 0 [] 0 ∧ ∃ b, g.blk = some b ∧ u = .pointer (some ⟨b, 0, none⟩)) ∨
       (r.real = false ∧ ∃ e es, r.cells = [.own e es] ∧ a.t = .ref i 0 [] 0 es.length ∧ g = ⟨none, [u]⟩))

def okArgs (sz : TypeId → Nat) (h : Array Obj) (I : Nat → Prop) : Nat → List Arg → List Value → List Nat → Prop
  | _, [], us, f => us = [] ∧ f = []
  | i, a :: as, us, f => ∃ u us' f1 f2, us = u :: us' ∧ f = f1 ++ f2 ∧ okArg sz h I i a u f1 ∧ okArgs sz h I (i + 1) as us' f2

def okOuts (sz : TypeId → Nat) (h : Array Obj) (I : Nat → Prop) (us : List Value) : List (Nat × List T) → List Nat → Prop
  | [], f => f = []
  | (i, cs) :: r, f => ∃ b f1 f2 arr el fz, f = (b :: f1) ++ f2 ∧ us[i]? = some (.pointer (some ⟨b, 0, none⟩)) ∧ h[b]? = some (.cells arr el fz) ∧ fzFree fz arr.size ∧ okL sz h I cs arr.toList f1 ∧ okOuts sz h I us r f2

/-- What comes of a call. -/
structure Back (sz : TypeId → Nat) (z : Zn) (us : List Value) (r : Res) (u : Value) (w' : World) : Prop where
  fr : Fr z w'
  ok : ∃ f fo, okV sz w'.heap (Inow z w' (f ++ fo)) r.ret u f ∧ okOuts sz w'.heap (Inow z w' (f ++ fo)) us r.outs fo ∧ Uniq (f ++ fo) ∧ ∀ b, b ∈ f ++ fo → b < w'.heap.size ∧ (b ∈ z.F0 ∨ z.w0.heap.size ≤ b)
  clean : r.clean = true → TM.clean r.ret = true

/-- What the machine says of a call holds. -/
def Sound (E : Env) (f : FuncId) (args : List Arg) (r : Res) : Prop :=
  ∀ (z : Zn) (us : List Value), Uniq z.F0 → (∀ b, b ∈ z.F0 → b < z.w0.heap.size) → okArgs (szOf E) z.w0.heap z.I0 0 args us z.F0 →
    Calls E.P f us.toArray z.w0 fun
      | .returned u, w' => Back (szOf E) z us r u w'
      | _, _ => False

/-! ### sealing -/
theorem seal0_ok {sz z rt gh w FS X} {t t' : T} {ds : List Nat} {u : Value} (r : HRel sz z rt gh w FS X) (hk : okX0 ⟨sz, w.heap, Inow z w (FS ++ X), rt, gh⟩ t u) (h : (seal0 t).run rt = some (t', ds)) :
    okV sz w.heap (fun b => Inow z w (FS ++ X) b ∨ (ds ≠ [] ∧ b ∈ FS)) t' u [] := by
  have up : ∀ {t}, okV sz w.heap (Inow z w (FS ++ X)) t u [] → okV sz w.heap (fun b => Inow z w (FS ++ X) b ∨ (ds ≠ [] ∧ b ∈ FS)) t u [] := fun hv =>
    okV_agree ⟨fun b hb => ⟨.inl hb, rfl⟩, fun b hb => by simp at hb⟩ hv
  unfold seal0 at h
  split at h
  · rename_i d ver path c n
    obtain ⟨⟨e, es⟩, g1, g2⟩ := run_bind h
    simp only [Rd.run, Option.some.injEq, Prod.mk.injEq] at g2
    obtain ⟨rfl, rfl⟩ := g2
    obtain ⟨f, q1, q2, q3⟩ := r.content hk.2 g1
    have := okV_seal (I' := fun b => Inow z w (FS ++ X) b ∨ (([d] : List Nat) ≠ [] ∧ b ∈ FS)) (fun b hb => .inl hb) (fun b hb => .inr ⟨by simp, q3 b hb⟩) q1
    simpa only [seal_] using this
  · rename_i e es
    simp only [Rd.run, Option.some.injEq, Prod.mk.injEq] at h
    obtain ⟨rfl, rfl⟩ := h
    have hk' : okV sz w.heap (Inow z w (FS ++ X)) (.own e es) u [] := hk
    have := okV_seal (I' := fun b => Inow z w (FS ++ X) b ∨ (([] : List Nat) ≠ [] ∧ b ∈ FS)) (fun b hb => .inl hb) (fun b hb => by simp at hb) hk'
    simpa only [seal_] using this
  all_goals first
    | (simp only [Rd.run, Option.some.injEq, Prod.mk.injEq] at h; obtain ⟨rfl, rfl⟩ := h; exact up hk)
    | simp [Rd.run] at h
end Go.TM

/- Sealing for a reader. -/
namespace Go.TM
open Go

theorem seal0_okV {sz h I} {FS : List Nat} {rt : List (Nat × Root)} {t t' : T} {ds : List Nat} {u : Value} {f : List Nat} (hk : okV sz h I t u f) (hs : ∀ b, b ∈ f → b ∈ FS) (he : (seal0 t).run rt = some (t', ds)) :
    okV sz h (fun b => I b ∨ b ∈ FS) t' u [] := by
  have up : f = [] → okV sz h (fun b => I b ∨ b ∈ FS) t u [] := fun hf => by
    subst hf
    exact okV_agree ⟨fun b hb => ⟨.inl hb, rfl⟩, fun b hb => by simp at hb⟩ hk
  unfold seal0 at he
  split at he
  · simp [okV] at hk
  · rename_i e es
    simp only [Rd.run, Option.some.injEq, Prod.mk.injEq] at he
    obtain ⟨rfl, rfl⟩ := he
    have := okV_seal (I' := fun b => I b ∨ b ∈ FS) (fun b hb => .inl hb) (fun b hb => .inr (hs b hb)) hk
    simpa only [seal_] using this
  all_goals first
    | (simp only [Rd.run, Option.some.injEq, Prod.mk.injEq] at he; obtain ⟨rfl, rfl⟩ := he; exact up (okV_cell hk rfl rfl))
    | simp [Rd.run] at he

theorem sealCells_okL {sz h I} {FS : List Nat} {rt : List (Nat × Root)} : ∀ {ts ts' : List T} {ds : List Nat} {us : List Value} {f : List Nat}, okL sz h I ts us f → (∀ b, b ∈ f → b ∈ FS) → (sealCells seal0 ts).run rt = some (ts', ds) →
    okL sz h (fun b => I b ∨ b ∈ FS) ts' us []
  | [], ts', ds, us, f, hk, _, he => by
    simp only [sealCells, Rd.run, Option.some.injEq, Prod.mk.injEq] at he
    obtain ⟨rfl, rfl⟩ := he
    simp only [okL] at hk ⊢
    exact ⟨hk.1, trivial⟩
  | t :: ts, ts', ds, us, f, hk, hs, he => by
    simp only [sealCells] at he
    obtain ⟨⟨t1, d1⟩, h1, h2⟩ := run_bind he
    obtain ⟨⟨ts1, d2⟩, h3, h4⟩ := run_bind h2
    simp only [Rd.run, Option.some.injEq, Prod.mk.injEq] at h4
    obtain ⟨rfl, rfl⟩ := h4
    simp only [okL] at hk ⊢
    obtain ⟨u, us', f1, f2, rfl, rfl, g1, g2⟩ := hk
    exact ⟨u, us', [], [], rfl, rfl, seal0_okV g1 (fun b hb => hs b (by simp [hb])) h1, sealCells_okL g2 (fun b hb => hs b (by simp [hb])) h3⟩

def Ileans (I : Nat → Prop) (FS ds : List Nat) (b : Nat) : Prop := I b ∨ (ds ≠ [] ∧ b ∈ FS)

theorem okV_leans {sz h I FS ds ds' t u} (hk : okV sz h (Ileans I FS ds) t u []) (hs : ds ≠ [] → ds' ≠ []) : okV sz h (Ileans I FS ds') t u [] :=
  okV_agree ⟨fun b hb => ⟨hb.imp id fun hx => ⟨hs hx.1, hx.2⟩, rfl⟩, fun b hb => by simp at hb⟩ hk

theorem okL_leans {sz h I FS ds ds' t u} (hk : okL sz h (Ileans I FS ds) t u []) (hs : ds ≠ [] → ds' ≠ []) : okL sz h (Ileans I FS ds') t u [] :=
  okL_agree ⟨fun b hb => ⟨hb.imp id fun hx => ⟨hs hx.1, hx.2⟩, rfl⟩, fun b hb => by simp at hb⟩ hk

theorem seal1_ok {sz z rt gh w FS X} {t t' : T} {ds : List Nat} {u : Value} (r : HRel sz z rt gh w FS X) (hk : okX0 ⟨sz, w.heap, Inow z w (FS ++ X), rt, gh⟩ t u) (h : (seal1 t).run rt = some (t', ds)) :
    okV sz w.heap (Ileans (Inow z w (FS ++ X)) FS ds) t' u [] := by
  unfold seal1 at h
  split at h
  · rename_i d ver path off
    obtain ⟨⟨ad, hu⟩, hp⟩ := hk
    split at h
    · obtain ⟨r0, g1, g2, g3⟩ := run_root h
      split at g3
      · rename_i hle
        obtain ⟨⟨ts, ds'⟩, g4, g5⟩ := run_bind g3
        simp only [Rd.run, Option.some.injEq, Prod.mk.injEq] at g5
        obtain ⟨rfl, rfl⟩ := g5
        obtain ⟨b, hb, hub⟩ := hp r0 g1 g2
        obtain ⟨f0, w1, w2⟩ := okRts_get r.roots g1
        unfold okRoot at w1
        rw [hb] at w1
        obtain ⟨_, fs', arr, el, fz, rfl, v1, v2, v3, v4⟩ := w1
        have hlen : arr.toList.length = r0.cells.length := by rw [v3]; exact okL_length v4
        have e1 : (r0.cells.take off) ++ r0.cells.drop off = r0.cells := List.take_append_drop _ _
        rw [← e1] at v4
        obtain ⟨u1, u2, f1, f2, hus, rfl, l1, q1, q2⟩ := okL_split v4
        have hok := sealCells_okL (FS := FS) q2 (fun b hb => w2 b (by simp [hb])) g4
        simp only [okV, true_and]
        refine ⟨b, off, arr, el, fz, hub, .inr ⟨by simp, w2 b (by simp)⟩, v1, ?_⟩
        have e2 : arr.toList.drop off = u2 := by
          rw [v3, hus, List.drop_append_of_le_length (by rw [l1, List.length_take]; omega), List.drop_of_length_le (by rw [l1, List.length_take]; omega), List.nil_append]
        rw [e2, ← okL_length hok, List.take_of_length_le (Nat.le_refl _)]
        exact okL_agree ⟨fun b hb => ⟨hb.imp id fun hx => ⟨by simp, hx⟩, rfl⟩, fun b hb => by simp at hb⟩ hok
      · simp [Rd.run] at g3
    · rename_i c0 i rest
      obtain ⟨ro, t0, g1, g2, g3, g4⟩ := run_cell h
      split at g4
      · rename_i cs hd
        split at g4
        · rename_i hle
          simp only [Rd.run, Option.some.injEq, Prod.mk.injEq] at g4
          obtain ⟨rfl, rfl⟩ := g4
          obtain ⟨u0, b, o, arr, el, fz, f, m1, m2, m3, m4, m5, m6, m6', m7, m8, m9⟩ := r.locate g1 g3 hd
          have hub := hp ro g1 g2 cs _ b o (m9 _)
          have e1 : (cs.take off) ++ cs.drop off = cs := List.take_append_drop _ _
          have hl0 : ((arr.toList.drop o).take cs.length).length = cs.length := okL_length m7
          have m7' := m7
          rw [← e1] at m7'
          obtain ⟨u1, u2, f1, f2, hus, rfl, l1, q1, q2⟩ := okL_split m7'
          rw [e1] at hus
          have hok := okL_seal (I' := Ileans (Inow z w (FS ++ X)) FS [d]) (fun b hb => .inl hb) (fun b hb => .inr ⟨by simp, m8 b (by simp [hb])⟩) q2
          simp only [okV, true_and]
          refine ⟨b, o + off, arr, el, fz, hub, .inr ⟨by simp, m6⟩, m3, ?_⟩
          have hl2 : u2.length = cs.length - off := by have := okL_length q2; rwa [List.length_drop] at this
          have e2 : (arr.toList.drop (o + off)).take (cs.length - off) = u2 := by
            have e0 : (u1 ++ u2).drop off = u2 := by
              rw [List.drop_append_of_le_length (by rw [l1, List.length_take]; omega), List.drop_of_length_le (by rw [l1, List.length_take]; omega), List.nil_append]
            have := congrArg (List.drop off) hus
            rw [e0, List.drop_take, List.drop_drop] at this
            exact this
          rw [sealL_length, List.length_drop, e2]
          exact hok
        · simp [Rd.run] at g4
      · simp [Rd.run] at g4
  · exact seal0_ok r hk h

theorem sealCells_ok {sz z rt gh w FS X} (r : HRel sz z rt gh w FS X) : ∀ {ts ts' : List T} {ds : List Nat} {us : List Value}, All2 (okX0 ⟨sz, w.heap, Inow z w (FS ++ X), rt, gh⟩) ts us → (sealCells seal1 ts).run rt = some (ts', ds) →
    okL sz w.heap (Ileans (Inow z w (FS ++ X)) FS ds) ts' us []
  | [], ts', ds, us, hk, he => by
    simp only [sealCells, Rd.run, Option.some.injEq, Prod.mk.injEq] at he
    obtain ⟨rfl, rfl⟩ := he
    simp only [All2] at hk; subst hk
    simp [okL]
  | t :: ts, ts', ds, us, hk, he => by
    simp only [sealCells] at he
    obtain ⟨⟨t1, d1⟩, h1, h2⟩ := run_bind he
    obtain ⟨⟨ts1, d2⟩, h3, h4⟩ := run_bind h2
    simp only [Rd.run, Option.some.injEq, Prod.mk.injEq] at h4
    obtain ⟨rfl, rfl⟩ := h4
    obtain ⟨u, us', rfl, k1, k2⟩ := hk
    simp only [okL]
    exact ⟨u, us', [], [], rfl, rfl, okV_leans (seal1_ok r k1 h1) (fun hx hy => hx (List.append_eq_nil_iff.1 hy).1), okL_leans (sealCells_ok r k2 h3) (fun hx hy => hx (List.append_eq_nil_iff.1 hy).2)⟩

theorem seal2_ok {sz z rt gh w FS X} {t t' : T} {ds : List Nat} {u : Value} (r : HRel sz z rt gh w FS X) (hk : okX ⟨sz, w.heap, Inow z w (FS ++ X), rt, gh⟩ t u) (h : (seal2 t).run rt = some (t', ds)) :
    okV sz w.heap (Ileans (Inow z w (FS ++ X)) FS ds) t' u [] := by
  unfold seal2 at h
  split at h
  · obtain ⟨⟨ts, ds'⟩, g1, g2⟩ := run_bind h
    simp only [Rd.run, Option.some.injEq, Prod.mk.injEq] at g2
    obtain ⟨rfl, rfl⟩ := g2
    obtain ⟨us, rfl, k1⟩ := hk
    simp only [okV]
    exact ⟨us, rfl, sealCells_ok r k1 g1⟩
  · obtain ⟨⟨ts, ds'⟩, g1, g2⟩ := run_bind h
    simp only [Rd.run, Option.some.injEq, Prod.mk.injEq] at g2
    obtain ⟨rfl, rfl⟩ := g2
    obtain ⟨us, rfl, k1⟩ := hk
    simp only [okV, true_and]
    exact ⟨us, rfl, sealCells_ok r k1 g1⟩
  · rename_i h1 h2
    have : okX0 ⟨sz, w.heap, Inow z w (FS ++ X), rt, gh⟩ t u := by
      cases t <;> first
        | exact hk
        | exact absurd rfl (h1 _)
        | exact absurd rfl (h2 _ _)
        | (simp [seal1, seal0, Rd.run] at h)
    exact seal1_ok r this h
end Go.TM

/- A root lent: away, and back. -/
namespace Go.TM
open Go

def del {α : Type} : List (Nat × α) → Nat → List (Nat × α)
  | [], _ => []
  | (k, x) :: r, d => if k = d then del r d else (k, x) :: del r d

theorem del_mem {α : Type} : ∀ {l : List (Nat × α)} {d : Nat} {p : Nat × α}, p ∈ del l d → p ∈ l ∧ p.1 ≠ d
  | [], d, p, h => by simp [del] at h
  | (k, x) :: r, d, p, h => by
    simp only [del] at h
    split at h
    · exact ⟨List.mem_cons_of_mem _ (del_mem h).1, (del_mem h).2⟩
    · rename_i hk
      rcases List.mem_cons.1 h with rfl | h
      · exact ⟨by simp, hk⟩
      · exact ⟨List.mem_cons_of_mem _ (del_mem h).1, (del_mem h).2⟩

theorem del_srt {α : Type} : ∀ {l : List (Nat × α)} {d : Nat}, Srt l → Srt (del l d)
  | [], d, _ => by simp [del, Srt]
  | (k, x) :: r, d, h => by
    simp only [del]
    split
    · exact del_srt h.2
    · exact ⟨fun p hp => h.1 p (del_mem hp).1, del_srt h.2⟩

theorem lk_del_self {α : Type} : ∀ (l : List (Nat × α)) (d : Nat), lk (del l d) d = none
  | [], d => rfl
  | (k, x) :: r, d => by
    simp only [del]
    split
    · exact lk_del_self r d
    · rename_i hk; simp only [lk, if_neg hk]; exact lk_del_self r d

theorem lk_del_ne {α : Type} : ∀ (l : List (Nat × α)) (d d' : Nat), d' ≠ d → lk (del l d) d' = lk l d'
  | [], d, d', _ => rfl
  | (k, x) :: r, d, d', h => by
    simp only [del]
    split
    · rename_i hk; subst hk; simp only [lk, if_neg (Ne.symm h)]; exact lk_del_ne r k d' h
    · simp only [lk, lk_del_ne r d d' h]

theorem del_none {α : Type} : ∀ {l : List (Nat × α)} {d : Nat}, (∀ p, p ∈ l → p.1 ≠ d) → del l d = l
  | [], d, _ => rfl
  | (k, x) :: r, d, h => by
    simp only [del, if_neg (h (k, x) (by simp))]
    rw [del_none fun p hp => h p (by simp [hp])]

theorem okRts_del {sz h I gh d ro} : ∀ {rt fs}, Srt rt → okRts sz h I gh rt fs → lk rt d = some ro → ∃ fd rr, Both fs fd rr ∧ okRoot sz h I (gh d) ro fd ∧ okRts sz h I gh (del rt d) rr
  | [], fs, _, _, hl => by simp [lk] at hl
  | (k, y) :: rest, fs, hs, hk, hl => by
    obtain ⟨f1, f2, rfl, h1, h2⟩ := hk
    simp only [lk] at hl
    split at hl
    · rename_i hkd; subst hkd
      simp only [Option.some.injEq] at hl; subst hl
      refine ⟨f1, f2, fun x => by simp, h1, ?_⟩
      simp only [del, if_true]
      rw [del_none fun p hp => by have := hs.1 p hp; omega]
      exact h2
    · rename_i hkd
      obtain ⟨fd, rr, g1, g2, g3⟩ := okRts_del hs.2 h2 hl
      refine ⟨fd, f1 ++ rr, fun x => by have := g1 x; simp only [List.count_append]; omega, g2, ?_⟩
      simp only [del, if_neg hkd]
      exact ⟨f1, rr, rfl, h1, g3⟩

theorem HRel.del {sz z rt gh w FS X d ro} (r : HRel sz z rt gh w FS X) (hl : lk rt d = some ro) :
    ∃ fd rr, okRoot sz w.heap (Inow z w (rr ++ (fd ++ X))) (gh d) ro fd ∧ HRel sz z (TM.del rt d) gh w rr (fd ++ X) ∧ (∀ b, Inow z w (FS ++ X) b ↔ Inow z w (rr ++ (fd ++ X)) b) ∧
      Keeps ⟨sz, w.heap, Inow z w (FS ++ X), rt, gh⟩ ⟨sz, w.heap, Inow z w (rr ++ (fd ++ X)), TM.del rt d, gh⟩ (fun _ _ => True) := by
  obtain ⟨fd, rr, h1, h2, h3⟩ := okRts_del r.srt r.roots hl
  have hm : ∀ b, b ∈ FS ++ X ↔ b ∈ rr ++ (fd ++ X) := fun b => by
    rw [← List.count_pos_iff, ← List.count_pos_iff]
    have := h1 b
    simp only [List.count_append]
    omega
  have hI : ∀ b, Inow z w (FS ++ X) b ↔ Inow z w (rr ++ (fd ++ X)) b := fun b => by unfold Inow; rw [hm b]
  have hag : ∀ {f}, Agree w.heap w.heap (Inow z w (FS ++ X)) (Inow z w (rr ++ (fd ++ X))) f := fun {f} => ⟨fun b hb => ⟨(hI b).1 hb, rfl⟩, fun b _ => rfl⟩
  refine ⟨fd, rr, okRoot_agree hag h2, ⟨del_srt r.srt, okRts_agree hag h3, fun x => ?_, fun b hb => r.lt b ((hm b).2 hb), fun b hb => r.zone b ((hm b).2 hb), r.fr⟩, hI, rfl, fun b hb => ⟨(hI b).1 hb, rfl⟩, ?_, ?_⟩
  · have h4 := r.uniq x
    have h5 := h1 x
    simp only [List.count_append] at *
    omega
  · intro d' s r' _ g1 g2
    by_cases hd : d' = d
    · subst hd
      rw [show lk (TM.del rt d') d' = none from lk_del_self rt d'] at g1
      simp at g1
    · have g1 : lk (TM.del rt d) d' = some r' := g1
      rw [lk_del_ne rt d d' hd] at g1
      exact ⟨r', g1, g2, rfl, skL_self r.roots (fun b _ => rfl) g1⟩
  · intro d' s r' _ g1 g2
    by_cases hd : d' = d
    · subst hd
      rw [show lk (TM.del rt d') d' = none from lk_del_self rt d'] at g1
      simp at g1
    · have g1 : lk (TM.del rt d) d' = some r' := g1
      rw [lk_del_ne rt d d' hd] at g1
      exact ⟨r', g1, g2, rfl⟩

/-- A root that was away comes back. -/
theorem HRel.back {sz z rt gh w FS X f d} {g : G} {r1 : Root} {x0 : Cx} {S : Nat → Nat → Prop} (r : HRel sz z rt gh w FS (f ++ X)) (hr : okRoot sz w.heap (Inow z w (FS ++ (f ++ X))) g r1 f) (hd : lk rt d = none)
    (kp : Keeps x0 ⟨sz, w.heap, Inow z w (FS ++ (f ++ X)), rt, gh⟩ S) (hS : ¬ S d r1.hver) (hb : ∃ ro, lk x0.rt d = some ro ∧ ro.ver = r1.ver ∧ g.blk = (x0.gh d).blk) :
    ∃ FS', HRel sz z (up rt d r1) (gset gh d g) w FS' X ∧ (∀ b, Inow z w (FS ++ (f ++ X)) b → Inow z w (FS' ++ X) b) ∧ Keeps x0 ⟨sz, w.heap, Inow z w (FS' ++ X), up rt d r1, gset gh d g⟩ S := by
  obtain ⟨fo, rr, q1, _, _, _, q4⟩ := okRts_up (d := d) r.srt r.roots
  obtain ⟨FS', p1, p2⟩ := q4 w.heap _ g r1 f ⟨fun b hb => ⟨hb, rfl⟩, fun b _ => rfl⟩ hr
  have hm : ∀ b, b ∈ FS' ++ X → b ∈ FS ++ (f ++ X) := fun b hb => by
    have h0 := List.count_pos_iff.2 hb
    have h1 := q1 b
    have h2 := p2 b
    rw [← List.count_pos_iff]
    simp only [List.count_append] at *
    omega
  have hI : ∀ b, Inow z w (FS ++ (f ++ X)) b → Inow z w (FS' ++ X) b := fun b hb => r.imm_grow (Nat.le_refl _) (fun b hb => .inl (hm b hb)) hb
  refine ⟨FS', ⟨up_srt r.srt, okRts_agree ⟨fun b hb => ⟨hI b hb, rfl⟩, fun b _ => rfl⟩ p1, fun x => ?_, fun b hb => r.lt b (hm b hb), fun b hb => r.zone b (hm b hb), r.fr⟩, hI, kp.sz, fun b hb => ⟨hI b (kp.old b hb).1, (kp.old b hb).2⟩, ?_, ?_⟩
  · have h1 := q1 x
    have h2 := p2 x
    have h3 := r.uniq x
    simp only [List.count_append] at *
    omega
  · intro d' s r' hs h1 h2
    by_cases he : d' = d
    · subst he
      simp only [lk_up_self, Option.some.injEq] at h1
      subst h1; subst h2
      exact absurd hs hS
    · simp only [lk_up_ne _ _ _ _ he] at h1
      obtain ⟨r0, g1, g2, g3, g4⟩ := kp.hdr d' s r' hs h1 h2
      exact ⟨r0, g1, g2, by simpa [gset, he] using g3, by simpa [gset, he] using g4⟩
  · intro d' s r' hs h1 h2
    by_cases he : d' = d
    · subst he
      simp only [lk_up_self, Option.some.injEq] at h1
      subst h1
      obtain ⟨ro, g1, g2, g3⟩ := hb
      exact ⟨ro, g1, g2.trans h2, by simpa [gset] using g3⟩
    · simp only [lk_up_ne _ _ _ _ he] at h1
      obtain ⟨r0, g1, g2, g3⟩ := kp.top d' s r' hs h1 h2
      exact ⟨r0, g1, g2, by simpa [gset, he] using g3⟩

theorem up_del {α : Type} : ∀ {l : List (Nat × α)} {d : Nat} {x : α}, Srt l → up (del l d) d x = up l d x
  | [], d, x, _ => rfl
  | (k, y) :: r, d, x, h => by
    simp only [del, up]
    by_cases hk : k = d
    · subst hk
      simp only [if_true]
      rw [del_none fun p hp => by have := h.1 p hp; omega]
      cases r with
      | nil => rfl
      | cons p r =>
        obtain ⟨k', y'⟩ := p
        have : k < k' := h.1 (k', y') (by simp)
        simp only [up]
        rw [if_neg (by omega), if_pos this]
    · simp only [if_neg hk]
      by_cases hlt : d < k
      · simp only [up, if_neg hk, if_pos hlt]
        rw [del_none fun p hp => by have := h.1 p hp; omega]
      · simp only [up, if_neg hk, if_neg hlt]
        rw [up_del h.2]

/-- What came back, cell by cell. -/
theorem lentRow_eq {tick d : Nat} : ∀ {cs : List T} {k : Nat} {rt : List (Nat × Root)} {ro : Root}, lk rt d = some ro → cs ≠ [] → k + cs.length = ro.cells.length →
    setCells tick rt (lentRow d k cs) = up rt d { ro with cells := ro.cells.take k ++ cs, hver := tick }
  | [], k, rt, ro, _, hn, _ => absurd rfl hn
  | c :: cs, k, rt, ro, hl, _, hlen => by
    simp only [List.length_cons] at hlen
    have h1 : setCell tick rt ⟨d, k, c, true⟩ = up rt d { ro with cells := ro.cells.set k c, hver := tick } := by
      unfold setCell; simp only [hl]; rfl
    simp only [lentRow, setCells, h1]
    have hset : ro.cells.set k c = ro.cells.take k ++ c :: ro.cells.drop (k + 1) := by
      rw [List.set_eq_take_append_cons_drop, if_pos (by omega)]
    cases cs with
    | nil =>
      simp only [lentRow, setCells]
      rw [hset, List.drop_of_length_le (by simp at hlen; omega)]
    | cons c' cs =>
      rw [lentRow_eq (ro := { ro with cells := ro.cells.set k c, hver := tick }) (lk_up_self _ _ _) (by simp) (by rw [List.length_set]; simp at hlen ⊢; omega)]
      have hupup : ∀ {l : List (Nat × Root)} {x y : Root}, up (up l d x) d y = up l d y := by
        intro l x y
        induction l with
        | nil => simp [up]
        | cons p l ih =>
          obtain ⟨k', z'⟩ := p
          simp only [up]
          by_cases h : k' = d
          · simp [h, up]
          · by_cases h2 : d < k'
            · simp [h, h2, up]
            · simp only [if_neg h, if_neg h2, up, ih]
      rw [hupup]
      congr 2
      show (ro.cells.set k c).take (k + 1) ++ c' :: cs = ro.cells.take k ++ c :: c' :: cs
      rw [hset]
      have hk : (ro.cells.take k).length = k := by rw [List.length_take]; simp at hlen; omega
      rw [List.take_append, hk, List.take_of_length_le (by omega)]
      have e1 : k + 1 - k = 1 := by omega
      rw [e1]
      simp
end Go.TM

/- Arguments. -/
namespace Go.TM
open Go

theorem content_congr {rt rt' : List (Nat × Root)} {d ver c n : Nat} {path : List (Nat × Nat)} (h : lk rt' d = lk rt d) : (content d ver path c n).run rt' = (content d ver path c n).run rt := by
  cases path with
  | nil => 
    simp only [content, rdPlace, Rd.bind, Rd.run, h]
    split
    · split
      · split
        · split
          · split <;> rfl
          · rfl
        · rfl
      · rfl
    · rfl
  | cons p rest =>
    obtain ⟨c0, i⟩ := p
    simp only [content, rdPlace, Rd.bind, Rd.run, h]
    split
    · split
      · split
        · split
          · split
            · simp only [Rd.bind]
              split
              · split <;> rfl
              · rfl
            · rfl
          · rfl
        · rfl
      · rfl
    · rfl

theorem run_bind_eq {α β : Type} {rt : List (Nat × Root)} : ∀ {m : Rd α} {k : α → Rd β} {a : α}, m.run rt = some a → (m.bind k).run rt = (k a).run rt
  | .ret b, k, a, h => by simp only [Rd.run, Option.some.injEq] at h; subst h; rfl
  | .fail, k, a, h => by simp [Rd.run] at h
  | .cell hh d v c k0, k, a, h => by
    obtain ⟨r, t, h1, h2, h3, h4⟩ := run_cell h
    simp only [Rd.bind, Rd.run, h1, h2, h3, if_true]
    exact run_bind_eq h4
  | .root hh d v k0, k, a, h => by
    obtain ⟨r, h1, h2, h3⟩ := run_root h
    simp only [Rd.bind, Rd.run, h1, h2, if_true]
    exact run_bind_eq h3
  | .stamp hh d v k0, k, a, h => by
    obtain ⟨r, h1, h2, h3⟩ := run_stamp h
    simp only [Rd.bind, Rd.run, h1, h2, if_true]
    exact run_bind_eq h3

theorem seal0_congr {rt rt' : List (Nat × Root)} {t t' : T} {ds : List Nat} (h : (seal0 t).run rt = some (t', ds)) (hd : ∀ d, d ∈ ds → lk rt' d = lk rt d) : (seal0 t).run rt' = some (t', ds) := by
  unfold seal0 at h ⊢
  split at h
  · obtain ⟨⟨e, es⟩, g1, g2⟩ := run_bind h
    simp only [Rd.run, Option.some.injEq, Prod.mk.injEq] at g2
    obtain ⟨rfl, rfl⟩ := g2
    rw [← content_congr (hd _ (by simp))] at g1
    rw [run_bind_eq g1]; rfl
  all_goals first | exact h | simp [Rd.run] at h

theorem sealCells_congr {f : T → Rd (T × List Nat)} {rt rt' : List (Nat × Root)} (hf : ∀ {t t' ds}, (f t).run rt = some (t', ds) → (∀ d, d ∈ ds → lk rt' d = lk rt d) → (f t).run rt' = some (t', ds)) :
    ∀ {ts ts' : List T} {ds : List Nat}, (sealCells f ts).run rt = some (ts', ds) → (∀ d, d ∈ ds → lk rt' d = lk rt d) → (sealCells f ts).run rt' = some (ts', ds)
  | [], ts', ds, h, _ => h
  | t :: ts, ts', ds, h, hd => by
    simp only [sealCells] at h ⊢
    obtain ⟨⟨t1, d1⟩, h1, h2⟩ := run_bind h
    obtain ⟨⟨ts1, d2⟩, h3, h4⟩ := run_bind h2
    simp only [Rd.run, Option.some.injEq, Prod.mk.injEq] at h4
    obtain ⟨rfl, rfl⟩ := h4
    rw [run_bind_eq (hf h1 fun d hx => hd d (by simp [hx]))]
    rw [run_bind_eq (sealCells_congr hf h3 fun d hx => hd d (by simp [hx]))]
    rfl

theorem seal1_congr {rt rt' : List (Nat × Root)} {t t' : T} {ds : List Nat} (h : (seal1 t).run rt = some (t', ds)) (hd : ∀ d, d ∈ ds → lk rt' d = lk rt d) : (seal1 t).run rt' = some (t', ds) := by
  unfold seal1 at h ⊢
  split at h
  · split at h
    · obtain ⟨r0, g1, g2, g3⟩ := run_root h
      split at g3
      · rename_i hle
        obtain ⟨⟨ts, ds'⟩, g4, g5⟩ := run_bind g3
        simp only [Rd.run, Option.some.injEq, Prod.mk.injEq] at g5
        obtain ⟨rfl, rfl⟩ := g5
        simp only [Rd.run, hd _ (List.mem_cons_self), g1, g2, if_true, if_pos hle]
        rw [run_bind_eq (sealCells_congr (fun h1 h2 => seal0_congr h1 h2) g4 fun d hx => hd d (by simp [hx]))]
        rfl
      · simp [Rd.run] at g3
    · obtain ⟨ro, t0, g1, g2, g3, g4⟩ := run_cell h
      split at g4
      · rename_i cs hcs
        split at g4
        · rename_i hle
          simp only [Rd.run, Option.some.injEq, Prod.mk.injEq] at g4
          obtain ⟨rfl, rfl⟩ := g4
          simp only [Rd.run, hd _ (List.mem_cons_self), g1, g2, if_true, g3, hcs, if_pos hle]
        · simp [Rd.run] at g4
      · simp [Rd.run] at g4
  · rename_i hn
    exact seal0_congr h hd

theorem seal2_congr {rt rt' : List (Nat × Root)} {t t' : T} {ds : List Nat} (h : (seal2 t).run rt = some (t', ds)) (hd : ∀ d, d ∈ ds → lk rt' d = lk rt d) : (seal2 t).run rt' = some (t', ds) := by
  unfold seal2 at h ⊢
  split at h
  · obtain ⟨⟨ts, ds'⟩, g1, g2⟩ := run_bind h
    simp only [Rd.run, Option.some.injEq, Prod.mk.injEq] at g2
    obtain ⟨rfl, rfl⟩ := g2
    rw [run_bind_eq (sealCells_congr (fun h1 h2 => seal1_congr h1 h2) g1 hd)]
    rfl
  · obtain ⟨⟨ts, ds'⟩, g1, g2⟩ := run_bind h
    simp only [Rd.run, Option.some.injEq, Prod.mk.injEq] at g2
    obtain ⟨rfl, rfl⟩ := g2
    rw [run_bind_eq (sealCells_congr (fun h1 h2 => seal1_congr h1 h2) g1 hd)]
    rfl
  · exact seal1_congr h hd
end Go.TM

/- A call's arguments: what is taken, what is lent. -/
namespace Go.TM
open Go

/-- The slices that are moved in. -/
def okPre (sz : TypeId → Nat) (h : Array Obj) (I : Nat → Prop) : Nat → List Arg → List Value → List Nat → Prop
  | _, [], us, f => us = [] ∧ f = []
  | i, a :: as, us, f => ∃ u us' f1 f2, us = u :: us' ∧ f = f1 ++ f2 ∧ (∀ r, a.root = some r → r.real = false → okArg sz h I i a u f1) ∧ ((∀ r, a.root = some r → r.real = true) → f1 = []) ∧ okPre sz h I (i + 1) as us' f2

theorem okArg_agree {sz h h' I I' i a u f} (ha : Agree h h' I I' f) (hk : okArg sz h I i a u f) : okArg sz h' I' i a u f := by
  unfold okArg at hk ⊢
  split at hk
  · obtain ⟨h1, rfl⟩ := hk
    exact ⟨okV_agree ⟨ha.1, fun b hb => by simp at hb⟩ h1, rfl⟩
  · obtain ⟨g, h1, h2⟩ := hk
    exact ⟨g, okRoot_agree ha h1, h2⟩

theorem okPre_agree {sz h h' I I'} : ∀ {as i us f}, Agree h h' I I' f → okPre sz h I i as us f → okPre sz h' I' i as us f
  | [], i, us, f, _, hk => hk
  | a :: as, i, us, f, ha, hk => by
    obtain ⟨u, us', f1, f2, rfl, rfl, h1, h2, h3⟩ := hk
    exact ⟨u, us', f1, f2, rfl, rfl, fun r hr hr2 => okArg_agree ha.left (h1 r hr hr2), h2, okPre_agree ha.right h3⟩

theorem nilOf_ok {E : Env} (_ht : TiOk E) {x : Cx} {S : Nat → Nat → Prop} {ty : TypeId} {t : T} {u : Value} (hk : okX x t u) (hs : stX S t) : okX x (nilOf E ty t) u ∧ stX S (nilOf E ty t) := by
  unfold nilOf
  split
  · have hu := okX_v.1 hk
    subst hu
    split
    · exact ⟨by show okV x.sz x.h x.I (.own _ []) _ []; simp [okV], trivial⟩
    · exact ⟨hk, hs⟩
  · exact ⟨hk, hs⟩

theorem stX_mono {S S' : Nat → Nat → Prop} (h : ∀ a b, S a b → S' a b) {t : T} (hs : stX S t) : stX S' t := by
  have s0 : ∀ t, st0 S t → st0 S' t := fun t ht => by cases t <;> first | trivial | exact h _ _ ht
  have s1 : ∀ t, st1 S t → st1 S' t := fun t ht => by
    cases t <;> first | trivial | exact h _ _ ht | exact fun c hc => s0 c (ht c hc)
  cases t <;> first | trivial | exact h _ _ hs | exact fun c hc => s0 c (hs c hc) | exact fun c hc => s1 c (hs c hc)

section args
variable {E : Env} {z : Zn} {tick : Nat} {rt0 : List (Nat × Root)} {gh : Nat → G} {w : World}

/-- One argument's takes. -/
theorem mkArg_take (ht : TiOk E) {rt1 FS1 X D i m ty t u} {q : Arg × List Nat × List (Nat × Nat) × List CSet} (r : HRel (szOf E) z rt1 gh w FS1 X) (p : Pres D rt0 rt1) (h : (mkArg E i m ty t).run rt0 = some q)
    (hD : ∀ s, s ∈ q.2.2.2 → (s.d, s.c) ∉ D) (hk : okX ⟨szOf E, w.heap, Inow z w (FS1 ++ X), rt1, gh⟩ t u) (hs : stX (Stm tick rt1) t) :
    ∃ FS' f, HRel (szOf E) z (setCells tick rt1 q.2.2.2) gh w FS' (f ++ X) ∧
      Keeps ⟨szOf E, w.heap, Inow z w (FS1 ++ X), rt1, gh⟩ ⟨szOf E, w.heap, Inow z w (FS' ++ (f ++ X)), setCells tick rt1 q.2.2.2, gh⟩ (Stm tick rt1) ∧
      Pres (places q.2.2.2 ++ D) rt0 (setCells tick rt1 q.2.2.2) ∧
      (∀ r, q.1.root = some r → r.real = false → okArg (szOf E) w.heap (Inow z w (FS' ++ (f ++ X))) i q.1 u f) ∧ ((∀ r, q.1.root = some r → r.real = true) → f = []) := by
  have quiet : q.2.2.2 = [] → (∀ r, q.1.root = some r → r.real = true) → ∃ FS' f, HRel (szOf E) z (setCells tick rt1 q.2.2.2) gh w FS' (f ++ X) ∧
      Keeps ⟨szOf E, w.heap, Inow z w (FS1 ++ X), rt1, gh⟩ ⟨szOf E, w.heap, Inow z w (FS' ++ (f ++ X)), setCells tick rt1 q.2.2.2, gh⟩ (Stm tick rt1) ∧
      Pres (places q.2.2.2 ++ D) rt0 (setCells tick rt1 q.2.2.2) ∧
      (∀ r, q.1.root = some r → r.real = false → okArg (szOf E) w.heap (Inow z w (FS' ++ (f ++ X))) i q.1 u f) ∧ ((∀ r, q.1.root = some r → r.real = true) → f = []) := fun h1 h2 => by
    rw [h1]
    exact ⟨FS1, [], r, r.keeps_refl _ fun b hb => hb, p, fun r' hr hr2 => by rw [h2 r' hr] at hr2; simp at hr2, fun _ => rfl⟩
  unfold mkArg at h
  cases m with
  | R =>
    obtain ⟨⟨t', ds⟩, g1, g2⟩ := run_bind h
    simp only [Rd.run, Option.some.injEq] at g2
    subst g2
    exact quiet rfl fun r' hr => by simp at hr
  | M =>
    dsimp only at h
    split at h
    · obtain ⟨r0, g1, g2, g3⟩ := run_root h
      split at g3
      · simp only [Rd.run, Option.some.injEq] at g3
        subst g3
        exact quiet rfl fun r' hr => by simp only [Option.some.injEq] at hr; rw [← hr]
      · simp [Rd.run] at g3
    · simp [Rd.run] at h
  | V =>
    dsimp only at h
    obtain ⟨k1, k2⟩ := nilOf_ok ht (ty := ty) hk hs
    split at h
    · rename_i d ver path c n hn
      rw [hn] at k1 k2
      obtain ⟨⟨⟨e, es⟩, s⟩, g1, g2⟩ := run_bind h
      simp only [Rd.run, Option.some.injEq] at g2
      subst g2
      obtain ⟨q1, q2, q3, FS', f, q4, q5, q6⟩ := r.take (tick := tick) k1.2 (p.take g1 (hD s (by simp)))
      refine ⟨FS', f, q5, q6, p.step q1, fun r' hr _ => ?_, fun hr => ?_⟩
      · refine ⟨⟨none, [u]⟩, ⟨rfl, okL_one.2 (okV_agree ⟨fun b hb => q6.old b hb, fun b _ => rfl⟩ q4)⟩, rfl, rfl, .inr ⟨rfl, e, es, rfl, by rw [q3], rfl⟩⟩
      · have := hr _ rfl
        simp at this
    · rename_i e es hn
      rw [hn] at k1 k2
      simp only [Rd.run, Option.some.injEq] at h
      subst h
      have hv : okV (szOf E) w.heap (Inow z w (FS1 ++ X)) (.own e es) u [] := k1
      refine ⟨FS1, [], r, r.keeps_refl _ fun b hb => hb, p, fun r' hr _ => ?_, fun _ => rfl⟩
      exact ⟨⟨none, [u]⟩, ⟨rfl, okL_one.2 hv⟩, rfl, rfl, .inr ⟨rfl, e, es, rfl, rfl, rfl⟩⟩
    · simp [Rd.run] at h
end args
end Go.TM

/- All arguments. -/
namespace Go.TM
open Go

def dels : List (Nat × Root) → List Nat → List (Nat × Root)
  | rt, [] => rt
  | rt, d :: ds => dels (del rt d) ds

theorem lk_dels_ne : ∀ {ds : List Nat} {rt : List (Nat × Root)} {d : Nat}, d ∉ ds → lk (dels rt ds) d = lk rt d
  | [], rt, d, _ => rfl
  | e :: ds, rt, d, h => by
    simp only [List.mem_cons, not_or] at h
    simp only [dels]
    rw [lk_dels_ne h.2, lk_del_ne rt e d h.1]

def okLents (sz : TypeId → Nat) (h : Array Obj) (I : Nat → Prop) (gh : Nat → G) (rt : List (Nat × Root)) : List Nat → List Nat → Prop
  | [], f => f = []
  | d :: ds, f => ∃ ro f1 f2, f = f1 ++ f2 ∧ lk rt d = some ro ∧ okRoot sz h I (gh d) ro f1 ∧ okLents sz h I gh rt ds f2

theorem okLents_agree {sz h h' I I' gh rt rt'} : ∀ {ds f}, Agree h h' I I' f → (∀ d, d ∈ ds → lk rt' d = lk rt d) → okLents sz h I gh rt ds f → okLents sz h' I' gh rt' ds f
  | [], f, _, _, hk => hk
  | d :: ds, f, ha, hd, hk => by
    obtain ⟨ro, f1, f2, rfl, h1, h2, h3⟩ := hk
    exact ⟨ro, f1, f2, rfl, by rw [hd d (by simp)]; exact h1, okRoot_agree ha.left h2, okLents_agree ha.right (fun d hx => hd d (by simp [hx])) h3⟩

/-- The lent roots go away: their blocks float. -/
theorem dels_ok {sz z gh w} : ∀ {ds : List Nat} {rt FS X}, HRel sz z rt gh w FS X → distinct ds = true → (∀ d, d ∈ ds → ∃ ro, lk rt d = some ro) →
    ∃ FS' fM, HRel sz z (dels rt ds) gh w FS' (fM ++ X) ∧ (∀ b, Inow z w (FS ++ X) b ↔ Inow z w (FS' ++ (fM ++ X)) b) ∧
      Keeps ⟨sz, w.heap, Inow z w (FS ++ X), rt, gh⟩ ⟨sz, w.heap, Inow z w (FS' ++ (fM ++ X)), dels rt ds, gh⟩ (fun _ _ => True) ∧
      okLents sz w.heap (Inow z w (FS' ++ (fM ++ X))) gh rt ds fM
  | [], rt, FS, X, r, _, _ => ⟨FS, [], r, fun b => Iff.rfl, r.keeps_refl _ fun b hb => hb, rfl⟩
  | d :: ds, rt, FS, X, r, hd, hl => by
    simp only [distinct, Bool.and_eq_true, Bool.not_eq_true', List.contains_eq_mem, decide_eq_false_iff_not] at hd
    obtain ⟨ro, hro⟩ := hl d (by simp)
    obtain ⟨fd, rr, h1, h2, h3, h4⟩ := r.del hro
    obtain ⟨FS', fM, k1, k2, k3, k4⟩ := dels_ok h2 hd.2 (fun e he => by
      obtain ⟨ro', h5⟩ := hl e (by simp [he])
      exact ⟨ro', by rw [lk_del_ne rt d e (fun hh => hd.1 (hh ▸ he))]; exact h5⟩)
    obtain ⟨r', hI⟩ := k1.perm (X' := (fd ++ fM) ++ X) fun x => by simp only [List.count_append]; omega
    refine ⟨FS', fd ++ fM, r', fun b => (h3 b).trans ((k2 b).trans (hI b)), ?_, ro, fd, fM, rfl, hro, ?_, ?_⟩
    · exact (h4.trans k3 fun _ _ h => h).trans (k1.keeps_refl (fun _ _ => True) fun b hb => (hI b).1 hb) fun _ _ h => h
    · exact okRoot_agree ⟨fun b hb => ⟨(hI b).1 ((k2 b).1 hb), rfl⟩, fun b _ => rfl⟩ h1
    · exact okLents_agree ⟨fun b hb => ⟨(hI b).1 hb, rfl⟩, fun b _ => rfl⟩ (fun e he => (lk_del_ne rt d e (fun hh => hd.1 (hh ▸ he))).symm) k4

section args
variable {E : Env} {z : Zn} {tick : Nat} {rt0 : List (Nat × Root)} {gh : Nat → G} {w : World}

theorem mkArgs_takes (ht : TiOk E) : ∀ {ts : List T} {i : Nat} {ms : List Mode} {tys : List TypeId} {us : List Value} {l : Lends} {rt1 FS1 X D}, HRel (szOf E) z rt1 gh w FS1 X → Pres D rt0 rt1 →
    (mkArgs E i ms tys ts).run rt0 = some l → setsApart l.sets = true → (∀ s, s ∈ l.sets → (s.d, s.c) ∉ D) → All2 (okX ⟨szOf E, w.heap, Inow z w (FS1 ++ X), rt1, gh⟩) ts us → (∀ t, t ∈ ts → stX (Stm tick rt1) t) →
    ∃ FS' f, HRel (szOf E) z (setCells tick rt1 l.sets) gh w FS' (f ++ X) ∧
      Keeps ⟨szOf E, w.heap, Inow z w (FS1 ++ X), rt1, gh⟩ ⟨szOf E, w.heap, Inow z w (FS' ++ (f ++ X)), setCells tick rt1 l.sets, gh⟩ (Stm tick rt1) ∧
      okPre (szOf E) w.heap (Inow z w (FS' ++ (f ++ X))) i l.args us f
  | [], i, ms, tys, us, l, rt1, FS1, X, D, r, p, h, _, _, hk, _ => by
    simp only [mkArgs, Rd.run, Option.some.injEq] at h
    subst h
    simp only [All2] at hk; subst hk
    exact ⟨FS1, [], r, r.keeps_refl _ fun b hb => hb, rfl, rfl⟩
  | t :: ts, i, ms, tys, us, l, rt1, FS1, X, D, r, p, h, hap, hD, hk, hs => by
    simp only [mkArgs] at h
    obtain ⟨q, h1, h2⟩ := run_bind h
    obtain ⟨l', h3, h4⟩ := run_bind h2
    simp only [Rd.run, Option.some.injEq] at h4
    subst h4
    obtain ⟨u, us', rfl, k1, k2⟩ := hk
    dsimp only at hap hD
    obtain ⟨a1, a2, a3⟩ := setsApart_append hap
    obtain ⟨FS2, f1, r2, kp2, p2, o1, o2⟩ := mkArg_take (tick := tick) ht r p h1 (fun s hx => hD s (by simp [hx])) k1 (hs t (by simp))
    obtain ⟨FS3, f2, r3, kp3, o3⟩ := mkArgs_takes ht r2 p2 h3 a2 (fun s hx => by
      have h5 := hD s (by simp [hx])
      have h6 := a3 s hx
      simp only [List.mem_append, not_or]
      exact ⟨h6, h5⟩) (k2.imp fun t u hm hx => kp2.x (hs t (by simp [hm])) hx) (fun t hm => stX_mono (fun a b => Stm_sets a b) (hs t (by simp [hm])))
    have hrt : setCells tick rt1 (q.2.2.2 ++ l'.sets) = setCells tick (setCells tick rt1 q.2.2.2) l'.sets := setCells_append
    obtain ⟨r4, hI⟩ := r3.perm (X' := (f1 ++ f2) ++ X) fun x => by simp only [List.count_append]; omega
    refine ⟨FS3, f1 ++ f2, by rw [hrt]; exact r4, ?_, u, us', f1, f2, rfl, rfl, fun r' hr hr2 => ?_, o2, ?_⟩
    · rw [hrt]
      exact (kp2.trans kp3 fun a b h => Stm_sets a b h).trans (r3.keeps_refl (Stm tick rt1) fun b hb => (hI b).1 hb) fun _ _ h => h
    · exact okArg_agree ⟨fun b hb => ⟨(hI b).1 (kp3.old b hb).1, rfl⟩, fun b _ => rfl⟩ (o1 r' hr hr2)
    · exact okPre_agree ⟨fun b hb => ⟨(hI b).1 hb, rfl⟩, fun b _ => rfl⟩ o3

/-- The arguments as the one that is called sees them. -/
theorem mkArgs_all {sz : TypeId → Nat} {I' I'' : Nat → Prop} {rt' : List (Nat × Root)} {x' : Cx} : ∀ {ts : List T} {i : Nat} {ms : List Mode} {tys : List TypeId} {us : List Value} {l : Lends} {fV fM : List Nat},
    (mkArgs E i ms tys ts).run rt0 = some l → okPre sz w.heap I' i l.args us fV → okLents sz w.heap I' gh rt' (l.lent.map (·.2)) fM →
    (∀ b, I' b → I'' b) → (∀ d, d ∈ l.lent.map (·.2) → lk rt' d = lk rt0 d) →
    (∀ t t' u ty ds, t ∈ ts → okX x' t u → (seal2 (nilOf E ty t)).run rt0 = some (t', ds) → (∀ d, d ∈ ds → d ∈ l.used) → okV sz w.heap I'' t' u []) →
    (∀ d ver u, okX x' (.ptr d ver [] 0) u → ∀ r, lk rt0 d = some r → r.ver = ver → lk rt' d = lk rt0 d → ∃ b, (gh d).blk = some b ∧ u = .pointer (some ⟨b, 0, none⟩)) →
    All2 (okX x') ts us → ∃ f, okArgs sz w.heap I'' i l.args us f ∧ ∀ b, f.count b = fV.count b + fM.count b
  | [], i, ms, tys, us, l, fV, fM, h, hV, hM, hI, _, _, _, hk => by
    simp only [mkArgs, Rd.run, Option.some.injEq] at h
    subst h
    obtain ⟨rfl, rfl⟩ := hV
    have hM : fM = [] := hM
    subst hM
    exact ⟨[], ⟨rfl, rfl⟩, fun b => by simp⟩
  | t :: ts, i, ms, tys, us, l, fV, fM, h, hV, hM, hI, hl, hR, hP, hk => by
    simp only [mkArgs] at h
    obtain ⟨q, h1, h2⟩ := run_bind h
    obtain ⟨l', h3, h4⟩ := run_bind h2
    simp only [Rd.run, Option.some.injEq] at h4
    subst h4
    obtain ⟨u, us', rfl, k1, k2⟩ := hk
    obtain ⟨u0, us0, f1, f2, he, rfl, o1, o2, o3⟩ := hV
    simp only [List.cons.injEq] at he
    obtain ⟨rfl, rfl⟩ := he
    dsimp only at hM hl hR o1 o2 o3 ⊢
    have rec_ : ∀ {fM'}, okLents sz w.heap I' gh rt' (l'.lent.map (·.2)) fM' → ∃ f, okArgs sz w.heap I'' (i + 1) l'.args us' f ∧ ∀ b, f.count b = f2.count b + fM'.count b := fun hM' =>
      mkArgs_all h3 o3 hM' hI (fun d hd => hl d (by rw [List.map_append, List.mem_append]; exact .inr hd)) (fun t t' u ty ds ht hk hs hu => hR t t' u ty ds (by simp [ht]) hk hs (fun d hd => by simp [hu d hd])) hP k2
    unfold mkArg at h1
    cases m0 : ms.headD .R with
    | R =>
      rw [m0] at h1
      obtain ⟨⟨t', ds⟩, g1, g2⟩ := run_bind h1
      simp only [Rd.run, Option.some.injEq] at g2
      subst g2
      have hf1 : f1 = [] := o2 fun r hr => by simp at hr
      subst hf1
      obtain ⟨f, p1, p2⟩ := rec_ (fM' := fM) (by simpa using hM)
      exact ⟨f, ⟨u, us', [], f, rfl, rfl, ⟨hR t t' u _ ds (by simp) k1 g1 (fun d hd => by simp [hd]), rfl⟩, p1⟩, fun b => by simpa using p2 b⟩
    | M =>
      rw [m0] at h1
      dsimp only at h1
      split at h1
      · rename_i d ver
        obtain ⟨r0, g1, g2, g3⟩ := run_root h1
        split at g3
        · rename_i hreal
          simp only [Rd.run, Option.some.injEq] at g3
          subst g3
          have hf1 : f1 = [] := o2 fun r hr => by simp only [Option.some.injEq] at hr; rw [← hr]
          subst hf1
          simp only [List.map_cons, List.cons_append, List.nil_append] at hM
          obtain ⟨ro, fd, fM', rfl, w1, w2, w3⟩ := hM
          obtain ⟨f, p1, p2⟩ := rec_ w3
          have hsame := hl d (by simp)
          rw [hsame, g1] at w1
          simp only [Option.some.injEq] at w1; subst w1
          obtain ⟨b, hb, hu⟩ := hP d ver u k1 r0 g1 g2 hsame
          have hro : okRoot sz w.heap I' (gh d) ⟨0, 0, true, r0.cells⟩ fd := by
            unfold okRoot at w2 ⊢
            rw [hb] at w2 ⊢
            exact ⟨rfl, w2.2⟩
          refine ⟨fd ++ f, ⟨u, us', fd, f, rfl, rfl, ?_, p1⟩, fun b => by have := p2 b; simp only [List.count_append, List.count_nil] at *; omega⟩
          exact ⟨gh d, okRoot_agree ⟨fun b hb => ⟨hI b hb, rfl⟩, fun b _ => rfl⟩ hro, rfl, rfl, .inl ⟨rfl, rfl, b, hb, hu⟩⟩
        · simp [Rd.run] at g3
      · simp [Rd.run] at h1
    | V =>
      rw [m0] at h1
      dsimp only at h1
      have fin : ∀ r, q.1.root = some r → r.real = false → q.2.2.1 = [] → ∃ f, okArgs sz w.heap I'' i (q.1 :: l'.args) (u :: us') f ∧ ∀ b, f.count b = (f1 ++ f2).count b + fM.count b := fun r hr hr2 hq => by
        rw [hq] at hM
        obtain ⟨f, p1, p2⟩ := rec_ (fM' := fM) (by simpa using hM)
        exact ⟨f1 ++ f, ⟨u, us', f1, f, rfl, rfl, okArg_agree ⟨fun b hb => ⟨hI b hb, rfl⟩, fun b _ => rfl⟩ (o1 r hr hr2), p1⟩, fun b => by have := p2 b; simp only [List.count_append] at *; omega⟩
      split at h1
      · obtain ⟨⟨⟨e, es⟩, s⟩, g1, g2⟩ := run_bind h1
        simp only [Rd.run, Option.some.injEq] at g2
        subst g2
        exact fin _ rfl rfl rfl
      · simp only [Rd.run, Option.some.injEq] at h1
        subst h1
        exact fin _ rfl rfl rfl
      · simp [Rd.run] at h1
end args
end Go.TM

/- After a call. -/
namespace Go.TM
open Go

theorem HRel.after {sz z rt gh w FS X} (r : HRel sz z rt gh w FS X) {z' : Zn} {w' : World} {X' : List Nat} (hw : z'.w0 = w) (hF : ∀ b, b ∈ z'.F0 → b ∈ X) (fr : Fr z' w') (hu : Uniq X')
    (hz : ∀ b, b ∈ X' → b < w'.heap.size ∧ (b ∈ z'.F0 ∨ w.heap.size ≤ b)) :
    HRel sz z rt gh w' FS X' ∧ Keeps ⟨sz, w.heap, Inow z w (FS ++ X), rt, gh⟩ ⟨sz, w'.heap, Inow z w' (FS ++ X'), rt, gh⟩ (fun _ _ => True) ∧ (∀ b, Inow z w (FS ++ X) b → Inow z w' (FS ++ X') b) := by
  subst hw
  have hsz : z'.w0.heap.size ≤ w'.heap.size := fr.size
  have hdis : ∀ b, b ∈ FS → b ∉ X := fun b h1 h2 => by
    have := r.uniq b
    have h3 := List.count_pos_iff.2 h1
    have h4 := List.count_pos_iff.2 h2
    simp only [List.count_append] at this
    omega
  have hFS : ∀ b, b ∈ FS → w'.heap[b]? = z'.w0.heap[b]? := fun b hb => fr.block b (r.lt b (by simp [hb])) fun h => hdis b hb (hF b h)
  have hI : ∀ b, Inow z z'.w0 (FS ++ X) b → Inow z w' (FS ++ X') b := fun b hb => r.imm_grow hsz (fun b hb => by
    rcases List.mem_append.1 hb with hb | hb
    · exact .inl (by simp [hb])
    · rcases (hz b hb).2 with h | h
      · exact .inl (by simp [hF b h])
      · exact .inr h) hb
  have hag : ∀ b, Inow z z'.w0 (FS ++ X) b → Inow z w' (FS ++ X') b ∧ w'.heap[b]? = z'.w0.heap[b]? := fun b hb =>
    ⟨hI b hb, fr.block b (r.imm hb).1 fun h => (r.imm hb).2 (by simp [hF b h])⟩
  refine ⟨⟨r.srt, okRts_agree ⟨hag, hFS⟩ r.roots, fun x => ?_, fun b hb => ?_, fun b hb => ?_, ?_⟩, ⟨rfl, hag, fun d s r' _ h1 h2 => ⟨r', h1, h2, rfl, skL_self r.roots hFS h1⟩, fun d s r' _ h1 h2 => ⟨r', h1, h2, rfl⟩⟩, hI⟩
  · have h1 := r.uniq x
    have h2 := hu x
    simp only [List.count_append] at *
    by_cases hx : x ∈ FS
    · have hnx : X'.count x = 0 := List.count_eq_zero.2 fun hm => by
        rcases (hz x hm).2 with h | h
        · exact hdis x hx (hF x h)
        · have := r.lt x (by simp [hx]); omega
      omega
    · have : FS.count x = 0 := List.count_eq_zero.2 hx
      omega
  · rcases List.mem_append.1 hb with hb | hb
    · have := r.lt b (by simp [hb]); omega
    · exact (hz b hb).1
  · rcases List.mem_append.1 hb with hb | hb
    · exact r.zone b (by simp [hb])
    · rcases (hz b hb).2 with h | h
      · exact r.zone b (by simp [hF b h])
      · have := r.fr.size; exact .inr (by omega)
  · exact r.fr.step r.zone fr.os fr.output fr.tape hsz fun b hb hn => fr.block b hb fun h => hn (by simp [hF b h])

theorem setCell_other {tick rt s d} (h : d ≠ s.d) : lk (setCell tick rt s) d = lk rt d := by
  unfold setCell
  split
  · rw [lk_up_ne _ _ _ _ h]
  · rfl

theorem setCells_other {tick} : ∀ {ss : List CSet} {rt d}, d ∉ ss.map (·.d) → lk (setCells tick rt ss) d = lk rt d
  | [], rt, d, _ => rfl
  | s :: ss, rt, d, h => by
    simp only [List.map_cons, List.mem_cons, not_or] at h
    simp only [setCells]
    rw [setCells_other h.2, setCell_other h.1]

theorem mkArgs_lent {E : Env} {rt0 : List (Nat × Root)} : ∀ {ts : List T} {i : Nat} {ms : List Mode} {tys : List TypeId} {l : Lends}, (mkArgs E i ms tys ts).run rt0 = some l →
    ∀ d, d ∈ l.lent.map (·.2) → ∃ ro, lk rt0 d = some ro
  | [], i, ms, tys, l, h, d, hd => by
    simp only [mkArgs, Rd.run, Option.some.injEq] at h
    subst h
    simp at hd
  | t :: ts, i, ms, tys, l, h, d, hd => by
    simp only [mkArgs] at h
    obtain ⟨q, h1, h2⟩ := run_bind h
    obtain ⟨l', h3, h4⟩ := run_bind h2
    simp only [Rd.run, Option.some.injEq] at h4
    subst h4
    simp only [List.map_append, List.mem_append] at hd
    rcases hd with hd | hd
    · unfold mkArg at h1
      cases m0 : ms.headD .R with
      | R =>
        rw [m0] at h1
        obtain ⟨⟨t', ds⟩, g1, g2⟩ := run_bind h1
        simp only [Rd.run, Option.some.injEq] at g2
        subst g2
        simp at hd
      | M =>
        rw [m0] at h1
        dsimp only at h1
        split at h1
        · obtain ⟨r0, g1, g2, g3⟩ := run_root h1
          split at g3
          · simp only [Rd.run, Option.some.injEq] at g3
            subst g3
            simp only [List.map_cons, List.map_nil, List.mem_singleton] at hd
            subst hd
            exact ⟨r0, g1⟩
          · simp [Rd.run] at g3
        · simp [Rd.run] at h1
      | V =>
        rw [m0] at h1
        dsimp only at h1
        split at h1
        · obtain ⟨⟨⟨e, es⟩, s⟩, g1, g2⟩ := run_bind h1
          simp only [Rd.run, Option.some.injEq] at g2
          subst g2
          simp at hd
        · simp only [Rd.run, Option.some.injEq] at h1
          subst h1
          simp at hd
        · simp [Rd.run] at h1
    · exact mkArgs_lent h3 d hd
end Go.TM

/- What was lent comes back. -/
namespace Go.TM
open Go

theorem up_head {α : Type} {l : List (Nat × α)} {d : Nat} {x : α} (h : ∀ p, p ∈ l → d < p.1) : up l d x = (d, x) :: l := by
  cases l with
  | nil => rfl
  | cons p r =>
    obtain ⟨k, y⟩ := p
    have : d < k := h (k, y) (by simp)
    simp only [up]
    rw [if_neg (by omega), if_pos this]

theorem del_up_ne {α : Type} {d e : Nat} {x : α} (h : e ≠ d) : ∀ {l : List (Nat × α)}, Srt l → del (up l d x) e = up (del l e) d x
  | [], _ => by simp [up, del, Ne.symm h]
  | (k, y) :: r, hs => by
    by_cases hk : k = d
    · subst hk
      simp [up, del, Ne.symm h]
    · by_cases hlt : d < k
      · have h1 : up ((k, y) :: r) d x = (d, x) :: (k, y) :: r := by simp only [up, if_neg hk, if_pos hlt]
        rw [h1]
        have h2 : del ((d, x) :: (k, y) :: r) e = (d, x) :: del ((k, y) :: r) e := by
          simp only [del, if_neg (Ne.symm h)]
        rw [h2, up_head fun p hp => ?_]
        have := (del_mem hp).1
        rcases List.mem_cons.1 this with rfl | hp
        · exact hlt
        · have := hs.1 p hp; omega
      · have h1 : up ((k, y) :: r) d x = (k, y) :: up r d x := by simp only [up, if_neg hk, if_neg hlt]
        rw [h1]
        by_cases hke : k = e
        · simp only [del, if_pos hke]
          exact del_up_ne h hs.2
        · simp only [del, if_neg hke, up, if_neg hk, if_neg hlt]
          rw [del_up_ne h hs.2]

theorem dels_up {d : Nat} {x : Root} : ∀ {ds : List Nat} {l : List (Nat × Root)}, d ∉ ds → Srt l → dels (up l d x) ds = up (dels l ds) d x
  | [], l, _, _ => rfl
  | e :: ds, l, h, hs => by
    simp only [List.mem_cons, not_or] at h
    simp only [dels]
    rw [del_up_ne (Ne.symm h.1) hs, dels_up h.2 (del_srt hs)]

theorem backs_ok {sz z tick} {w' : World} {us : List Value} {args : List Arg} {x0 : Cx} {S : Nat → Nat → Prop} {X : List Nat} {Io : Nat → Prop} : ∀ {ls : List (Nat × Nat)} {os : List (Nat × List T)} {rt gh FS fo s}, Srt rt → distinct (ls.map (·.2)) = true →
    (∀ i d, (i, d) ∈ ls → ∃ ro r0 b, lk rt d = some ro ∧ lk x0.rt d = some r0 ∧ r0.ver = ro.ver ∧ ¬ S d tick ∧ (x0.gh d).blk = some b ∧ us[i]? = some (.pointer (some ⟨b, 0, none⟩)) ∧ ro.real = true ∧ ∀ ra, (args[i]?).bind (·.root) = some ra → ra.cells.length = ro.cells.length) →
    HRel sz z (dels rt (ls.map (·.2))) gh w' FS (fo ++ X) → okOuts sz w'.heap Io us os fo → (∀ b, Io b → Inow z w' (FS ++ (fo ++ X)) b) → comeBack args os ls = some s →
    Keeps x0 ⟨sz, w'.heap, Inow z w' (FS ++ (fo ++ X)), dels rt (ls.map (·.2)), gh⟩ S →
    ∃ gh' FS', HRel sz z (setCells tick rt s) gh' w' FS' X ∧ Keeps x0 ⟨sz, w'.heap, Inow z w' (FS' ++ X), setCells tick rt s, gh'⟩ S ∧ ∀ b, Inow z w' (FS ++ (fo ++ X)) b → Inow z w' (FS' ++ X) b
  | [], [], rt, gh, FS, fo, s, hs, _, _, r, ho, _, hc, kp => by
    simp only [comeBack, Option.some.injEq] at hc; subst hc
    simp only [okOuts] at ho; subst ho
    exact ⟨gh, FS, r, kp, fun b hb => hb⟩
  | [], _ :: _, _, _, _, _, _, _, _, _, _, _, _, hc, _ => by simp [comeBack] at hc
  | (_, _) :: _, [], _, _, _, _, _, _, _, _, _, _, _, hc, _ => by simp [comeBack] at hc
  | (j, d) :: ls, (i, cs) :: os, rt, gh, FS, fo, s, hs, hd, hl, r, ho, hI, hc, kp => by
    simp only [comeBack] at hc
    split at hc
    · rename_i hij; subst hij
      split at hc
      · rename_i ra hra
        split at hc
        · rename_i hcl
          obtain ⟨c1, c2⟩ := hcl
          split at hc
          · rename_i s' hs'
            simp only [Option.some.injEq] at hc; subst hc
            simp only [List.map_cons, distinct, Bool.and_eq_true, Bool.not_eq_true', List.contains_eq_mem, decide_eq_false_iff_not] at hd
            obtain ⟨ro, r0, b, l1, l2, l3, l4, l5, l6, l7, l8⟩ := hl i d (by simp)
            obtain ⟨b', f1, f2, arr, el, fz, rfl, o1, o2, o3, o4, o5⟩ := ho
            rw [l6] at o1
            simp only [Option.some.injEq, Value.pointer.injEq, Addr.mk.injEq] at o1
            obtain ⟨rfl, _⟩ := o1
            simp only [List.map_cons, dels] at r kp
            have hperm : HRel sz z (dels (del rt d) (ls.map (·.2))) gh w' FS ((b :: f1) ++ (f2 ++ X)) := by rw [← List.append_assoc]; exact r
            have hno : lk (dels (del rt d) (ls.map (·.2))) d = none := by rw [lk_dels_ne hd.1]; exact lk_del_self rt d
            have happ : (b :: f1) ++ (f2 ++ X) = (b :: f1) ++ f2 ++ X := (List.append_assoc _ _ _).symm
            obtain ⟨FS', k1, k2, k3⟩ := HRel.back (g := ⟨some b, arr.toList⟩) (r1 := { ro with cells := cs, hver := tick }) (d := d) (x0 := x0) (S := S) hperm
              ⟨l7, f1, arr, el, fz, rfl, o2, o3, rfl, okL_agree ⟨fun y hy => ⟨by rw [happ]; exact hI y hy, rfl⟩, fun y _ => rfl⟩ o4⟩ hno (by rw [happ]; exact kp) l4 ⟨r0, l2, l3, by rw [l5]⟩
            have hlen : cs.length = ro.cells.length := by rw [c1]; exact l8 ra hra
            have hrow := lentRow_eq (tick := tick) (cs := cs) (k := 0) l1 (by intro h; subst h; simp at c2) (by omega)
            have hup : dels (up rt d { ro with cells := cs, hver := tick }) (ls.map (·.2)) = up (dels (del rt d) (ls.map (·.2))) d { ro with cells := cs, hver := tick } := by
              rw [← up_del hs, dels_up hd.1 (del_srt hs)]
            rw [← hup] at k1 k3
            obtain ⟨gh', FS2, m1, m2, m3⟩ := backs_ok (tick := tick) (us := us) (args := args) (x0 := x0) (S := S) (X := X) (Io := Io) (up_srt hs) hd.2 (fun i' d' hm => by
              obtain ⟨ro', r0', b', n1, n2⟩ := hl i' d' (by simp [hm])
              refine ⟨ro', r0', b', ?_, n2⟩
              rw [lk_up_ne _ _ _ _ (fun he => hd.1 (by rw [← he]; exact List.mem_map.2 ⟨(i', d'), hm, rfl⟩))]
              exact n1) k1 o5 (fun y hy => k2 y (by rw [happ]; exact hI y hy)) hs' k3
            refine ⟨gh', FS2, ?_, ?_, fun y hy => m3 y (k2 y (by rw [happ]; exact hy))⟩
            · rw [setCells_append, hrow]; simpa using m1
            · rw [setCells_append, hrow]; simpa using m2
          · simp at hc
        · simp at hc
      · simp at hc
    · simp at hc
end Go.TM

/- A call. -/
namespace Go.TM
open Go

theorem okOuts_agree {sz h h' I I' us} : ∀ {os f}, Agree h h' I I' f → okOuts sz h I us os f → okOuts sz h' I' us os f
  | [], f, _, hk => hk
  | (i, cs) :: os, f, ha, hk => by
    obtain ⟨b, f1, f2, arr, el, fz, rfl, o1, o2, o3, o4, o5⟩ := hk
    exact ⟨b, f1, f2, arr, el, fz, rfl, o1, by rw [ha.2 b (by simp)]; exact o2, o3, okL_agree ⟨ha.1, fun y hy => ha.2 y (by simp [hy])⟩ o4, okOuts_agree ⟨ha.1, fun y hy => ha.2 y (by simp [hy])⟩ o5⟩

theorem okOuts_clean {sz h I I' us} : ∀ {os f}, (os.all fun o => cleanL o.2) = true → okOuts sz h I us os f → okOuts sz h I' us os f
  | [], f, _, hk => hk
  | (i, cs) :: os, f, hc, hk => by
    simp only [List.all_cons, Bool.and_eq_true] at hc
    obtain ⟨b, f1, f2, arr, el, fz, rfl, o1, o2, o3, o4, o5⟩ := hk
    exact ⟨b, f1, f2, arr, el, fz, rfl, o1, o2, o3, okL_clean hc.1 o4, okOuts_clean hc.2 o5⟩

/-- What a callee calls still, is still to the one that called it. -/
theorem after_I {sz z rt gh w FS X} (r : HRel sz z rt gh w FS X) {z' : Zn} {w' : World} {X' used : List Nat} (hw : z'.w0 = w) (hF : ∀ b, b ∈ z'.F0 → b ∈ X) (hI0 : z'.I0 = Ileans (Inow z w (FS ++ X)) FS used) (_fr : Fr z' w')
    (hI : ∀ b, Inow z w (FS ++ X) b → Inow z w' (FS ++ X') b) {b : Nat} (hb : Inow z' w' X' b) : Inow z w' (FS ++ X') b ∨ (used ≠ [] ∧ b ∈ FS) := by
  subst hw
  rcases hb with hb | ⟨h1, h2, h3⟩
  · rw [hI0] at hb
    rcases hb with hb | hb
    · exact .inl (hI b hb)
    · exact .inr hb
  · refine .inl (.inr ⟨?_, h2, fun hm => ?_⟩)
    · rcases h1 with h1 | h1
      · exact r.zone b (by simp [hF b h1])
      · have := r.fr.size; exact .inr (by omega)
    · rcases List.mem_append.1 hm with hm | hm
      · rcases h1 with h1 | h1
        · have := r.uniq b
          have h4 := List.count_pos_iff.2 hm
          have h5 := List.count_pos_iff.2 (hF b h1)
          simp only [List.count_append] at this
          omega
        · have := r.lt b (by simp [hm]); omega
      · exact h3 hm
end Go.TM

namespace Go.TM
open Go

theorem mkArgs_lent2 {E : Env} {rt0 : List (Nat × Root)} {x : Cx} : ∀ {ts : List T} {i : Nat} {ms : List Mode} {tys : List TypeId} {us : List Value} {l : Lends}, (mkArgs E i ms tys ts).run rt0 = some l → All2 (okX x) ts us →
    (∀ d r, lk rt0 d = some r → lk x.rt d = some r) →
    ∀ j d, (j, d) ∈ l.lent → ∃ k ro b, j = i + k ∧ lk rt0 d = some ro ∧ ro.real = true ∧ (x.gh d).blk = some b ∧ us[k]? = some (.pointer (some ⟨b, 0, none⟩)) ∧ (l.args[k]?).bind (·.root) = some ⟨0, 0, true, ro.cells⟩
  | [], i, ms, tys, us, l, h, _, _, j, d, hd => by
    simp only [mkArgs, Rd.run, Option.some.injEq] at h
    subst h
    simp at hd
  | t :: ts, i, ms, tys, us, l, h, hk, hx, j, d, hd => by
    simp only [mkArgs] at h
    obtain ⟨q, h1, h2⟩ := run_bind h
    obtain ⟨l', h3, h4⟩ := run_bind h2
    simp only [Rd.run, Option.some.injEq] at h4
    subst h4
    obtain ⟨u, us', rfl, k1, k2⟩ := hk
    rcases List.mem_append.1 hd with hd | hd
    · unfold mkArg at h1
      cases m0 : ms.headD .R with
      | R =>
        rw [m0] at h1
        obtain ⟨⟨t', ds⟩, g1, g2⟩ := run_bind h1
        simp only [Rd.run, Option.some.injEq] at g2
        subst g2
        simp at hd
      | M =>
        rw [m0] at h1
        dsimp only at h1
        split at h1
        · obtain ⟨r0, g1, g2, g3⟩ := run_root h1
          split at g3
          · rename_i hreal
            simp only [Rd.run, Option.some.injEq] at g3
            subst g3
            simp only [List.mem_singleton, Prod.mk.injEq] at hd
            obtain ⟨rfl, rfl⟩ := hd
            obtain ⟨b, hb, hu⟩ := k1.2 r0 (hx _ _ g1) g2
            exact ⟨0, r0, b, rfl, g1, hreal, hb, by simp [hu], rfl⟩
          · simp [Rd.run] at g3
        · simp [Rd.run] at h1
      | V =>
        rw [m0] at h1
        dsimp only at h1
        split at h1
        · obtain ⟨⟨⟨e, es⟩, s⟩, g1, g2⟩ := run_bind h1
          simp only [Rd.run, Option.some.injEq] at g2
          subst g2
          simp at hd
        · simp only [Rd.run, Option.some.injEq] at h1
          subst h1
          simp at hd
        · simp [Rd.run] at h1
    · obtain ⟨k, ro, b, y1, y2⟩ := mkArgs_lent2 h3 k2 hx j d hd
      refine ⟨k + 1, ro, b, by omega, y2.1, y2.2.1, y2.2.2.1, ?_, ?_⟩
      · simpa using y2.2.2.2.1
      · simpa using y2.2.2.2.2
end Go.TM

namespace Go.TM
open Go
theorem comeBack_hdr {args : List Arg} : ∀ {ls : List (Nat × Nat)} {os : List (Nat × List T)} {s : List CSet}, comeBack args os ls = some s → ∀ j d, (j, d) ∈ ls → ∃ s0, s0 ∈ s ∧ s0.d = d ∧ s0.hdr = true
  | [], os, s, _, j, d, hd => by simp at hd
  | (j', d') :: ls, [], s, h, j, d, hd => by simp [comeBack] at h
  | (j', d') :: ls, (i, cs) :: os, s, h, j, d, hd => by
    simp only [comeBack] at h
    split at h
    · split at h
      · split at h
        · rename_i hc
          obtain ⟨c1, c2⟩ := hc
          split at h
          · rename_i s' hs'
            simp only [Option.some.injEq] at h; subst h
            rcases List.mem_cons.1 hd with hd | hd
            · simp only [Prod.mk.injEq] at hd
              obtain ⟨rfl, rfl⟩ := hd
              cases cs with
              | nil => simp at c2
              | cons c cs => exact ⟨⟨d, 0, c, true⟩, by simp [lentRow], rfl, rfl⟩
            · obtain ⟨s0, h1, h2⟩ := comeBack_hdr hs' j d hd
              exact ⟨s0, by simp [h1], h2⟩
          · simp at h
        · simp at h
      · simp at h
    · simp at h
end Go.TM
namespace Go.TM
open Go
theorem setCells_srt {tick} : ∀ {ss : List CSet} {rt : List (Nat × Root)}, Srt rt → Srt (setCells tick rt ss)
  | [], _, h => h
  | s :: ss, rt, h => by
    simp only [setCells]
    refine setCells_srt ?_
    unfold setCell
    split
    · exact up_srt h
    · exact h
end Go.TM

/- A call, joined. -/
namespace Go.TM
open Go

theorem stX_True {t : T} : stX (fun _ _ => True) t := by
  have s0 : ∀ t, st0 (fun _ _ => True) t := fun t => by cases t <;> trivial
  have s1 : ∀ t, st1 (fun _ _ => True) t := fun t => by
    cases t <;> first | trivial | exact fun c _ => s0 c
  cases t <;> first | trivial | exact fun c _ => s0 c | exact fun c _ => s1 c

theorem Calls.mono' {P : Program} {f : FuncId} {args : Array Value} {w : World} {K K' : Value → World → Prop} (h : Calls P f args w fun | .returned u, w' => K u w' | _, _ => False) (hk : ∀ u w', K u w' → K' u w') :
    Calls P f args w fun | .returned u, w' => K' u w' | _, _ => False :=
  Calls.mono h fun e w' he => by cases e <;> first | exact hk _ _ he | exact he

section call
variable {E : Env} {z : Zn} {n tick : Nat} {fr : List (Nat × T)} {rt : List (Nat × Root)} {gh : Nat → G} {w : World} {FS : List Nat} {a : Act}
variable {call : FuncId → List Arg → Option Res} {me : FuncId} {d : Nat} {ty0 : TypeId} {e : Eff} {o : Oper}

theorem call_ok (ht : TiOk E) (h : Here E z n tick fr rt gh w FS a) (hcall : ∀ f args r, call f args = some r → Sound E f args r) {f : FuncId} {tys : List TypeId} {ts : List T} {us : List Value}
    (he : (callEff E call me d tick f tys ts).run rt = some e) (hd : EffOk tick rt d e) (hk : All2 (okX ⟨szOf E, w.heap, Inow z w (FS ++ []), rt, gh⟩) ts us) (hs : ∀ t, t ∈ ts → stX (Stm tick rt) t) :
    Calls E.P f us.toArray w fun | .returned u, w' => Done E z tick rt (rtOf tick rt d e) gh w FS e.val u w' | _, _ => False := by
  unfold callEff at he
  obtain ⟨l, h1, he1⟩ := run_bind he
  clear he
  split at he1
  · rename_i hc
    simp only [Bool.and_eq_true, List.all_eq_true, Bool.not_eq_true', List.contains_eq_mem, decide_eq_false_iff_not] at hc
    obtain ⟨⟨c1, c2⟩, c3⟩ := hc
    split at he1
    · rename_i r hr
      split at he1
      · rename_i hcl
        split at he1
        · rename_i s hback
          simp only [Rd.run, Option.some.injEq] at he1
          have hsets : e.sets = l.sets ++ s := by
            rw [← he1, with_sets.2.2]
            have : (sealRes (E.keep me d) d tick r.ret).sets = [] := by unfold sealRes; split <;> first | exact rooted_sets | rfl
            rw [this]; rfl
          obtain ⟨a1, a2, a3⟩ := setsApart_append (by rw [← hsets]; exact hd.apart : setsApart (l.sets ++ s) = true)
          obtain ⟨FS1, fV, r1, kp1, pre⟩ := mkArgs_takes (tick := tick) (D := []) ht h.heap (Pres.refl rt) h1 a1 (fun s _ => by simp) hk hs
          have hun : ∀ e, e ∉ l.sets.map (·.d) → lk (setCells tick rt l.sets) e = lk rt e := fun e he => setCells_other he
          have hlent : ∀ e, e ∈ l.lent.map (·.2) → lk (setCells tick rt l.sets) e = lk rt e := fun e he => hun e (c2 e he)
          obtain ⟨FS2, fM, r2, hI2, kp2, lents⟩ := dels_ok r1 c1 (fun e he => by rw [hlent e he]; exact mkArgs_lent h1 e he)
          have hrt2 : ∀ e, e ∉ l.lent.map (·.2) → lk (dels (setCells tick rt l.sets) (l.lent.map (·.2))) e = lk (setCells tick rt l.sets) e := fun e he => lk_dels_ne he
          obtain ⟨f0, g1, g2⟩ := mkArgs_all (E := E) (rt0 := rt) (gh := gh) (w := w) (sz := szOf E) (I' := Inow z w (FS2 ++ (fM ++ (fV ++ [])))) (I'' := Ileans (Inow z w (FS2 ++ (fM ++ (fV ++ [])))) FS2 l.used) (rt' := setCells tick rt l.sets)
            (x' := ⟨szOf E, w.heap, Inow z w (FS1 ++ (fV ++ [])), setCells tick rt l.sets, gh⟩) h1
            (okPre_agree ⟨fun b hb => ⟨(hI2 b).1 hb, rfl⟩, fun b _ => rfl⟩ pre) lents (fun b hb => .inl hb) hlent
            (fun t t' u ty ds _ hx hseal hu => by
              have hx2 := kp2.x stX_True hx
              obtain ⟨n1, n2⟩ := nilOf_ok ht (S := fun _ _ => True) (ty := ty) hx2 stX_True
              have hcg := seal2_congr (rt' := dels (setCells tick rt l.sets) (l.lent.map (·.2))) hseal (fun e he => by
                obtain ⟨y1, y2⟩ := c3 e (hu e he)
                rw [hrt2 e y1, hun e y2])
              exact okV_leans (seal2_ok r2 n1 hcg) (fun hne => by
                obtain ⟨e, he⟩ := List.exists_mem_of_ne_nil ds hne
                exact List.ne_nil_of_mem (hu e he)))
            (fun e ver u hx r' hl hv hsame => hx.2 r' (by rw [hsame]; exact hl) hv)
            (hk.imp fun t u hm hx => kp1.x (hs t hm) hx)
          have hmem : ∀ b, b ∈ f0 → b ∈ fM ++ (fV ++ []) := fun b hb => by
            have h1 := List.count_pos_iff.2 hb
            have h2 := g2 b
            rw [← List.count_pos_iff]
            simp only [List.count_append, List.count_nil]
            omega
          have hz' : ∀ b, Ileans (Inow z w (FS2 ++ (fM ++ (fV ++ [])))) FS2 l.used b → b < w.heap.size ∧ b ∉ f0 := fun b hb => by
            rcases hb with hb | hb
            · exact ⟨(r2.imm hb).1, fun hm => (r2.imm hb).2 (List.mem_append.2 (.inr (hmem b hm)))⟩
            · refine ⟨r2.lt b (List.mem_append.2 (.inl hb.2)), fun hm => ?_⟩
              have h1 := r2.uniq b
              have h2 := List.count_pos_iff.2 hb.2
              have h3 := List.count_pos_iff.2 (hmem b hm)
              simp only [List.count_append] at h1 h3
              omega
          have hsound := hcall f l.args r hr ⟨w, f0, Ileans (Inow z w (FS2 ++ (fM ++ (fV ++ [])))) FS2 l.used, hz'⟩ us
            (fun b => by
              have h1 := r2.uniq b
              have h2 := g2 b
              simp only [List.count_append, List.count_nil] at h1
              show f0.count b ≤ 1
              omega)
            (fun b hb => r2.lt b (List.mem_append.2 (.inr (hmem b hb)))) g1
          refine Calls.mono' hsound fun u w' back => ?_
          obtain ⟨bfr, ⟨f', fo, b1, b2, b3, b4⟩, bcl⟩ := back
          obtain ⟨r3, kp3, hI3⟩ := r2.after (X' := f' ++ fo) rfl hmem bfr b3 b4
          have hI4 := fun b hb => after_I (X' := f' ++ fo) (b := b) r2 rfl hmem rfl bfr hI3 hb
          have hret : okV (szOf E) w'.heap (Inow z w' (FS2 ++ (f' ++ fo))) r.ret u f' ∧ okOuts (szOf E) w'.heap (Inow z w' (FS2 ++ (f' ++ fo))) us r.outs fo := by
            rcases Bool.or_eq_true_iff.1 hcl with hx | hx
            · simp only [Bool.and_eq_true] at hx
              exact ⟨okV_clean (bcl hx.1) b1, okOuts_clean hx.2 b2⟩
            · have hu : l.used = [] := by simpa using hx
              have hag : ∀ b, Inow ⟨w, f0, Ileans (Inow z w (FS2 ++ (fM ++ (fV ++ [])))) FS2 l.used, hz'⟩ w' (f' ++ fo) b → Inow z w' (FS2 ++ (f' ++ fo)) b := fun b hb => by
                rcases hI4 b hb with h | h
                · exact h
                · exact absurd hu h.1
              exact ⟨okV_agree ⟨fun b hb => ⟨hag b hb, rfl⟩, fun b _ => rfl⟩ b1, okOuts_agree ⟨fun b hb => ⟨hag b hb, rfl⟩, fun b _ => rfl⟩ b2⟩
          obtain ⟨r4, hI5⟩ := r3.perm (X' := fo ++ (f' ++ [])) fun x => by simp only [List.count_append, List.count_nil]; omega
          have kp4 : Keeps ⟨szOf E, w.heap, Inow z w (FS ++ []), rt, gh⟩ ⟨szOf E, w'.heap, Inow z w' (FS2 ++ (fo ++ (f' ++ []))), dels (setCells tick rt l.sets) (l.lent.map (·.2)), gh⟩ (Stm tick rt) :=
            (kp1.trans (kp2.trans (kp3.trans (r3.keeps_refl (fun _ _ => True) fun b hb => (hI5 b).1 hb) fun _ _ h => h) fun _ _ h => h) fun _ _ _ => trivial)
          obtain ⟨gh', FS3, r5, kp5, hI6⟩ := backs_ok (tick := tick) (us := us) (args := l.args) (S := Stm tick rt) (by exact setCells_srt h.heap.srt) c1
            (fun j dd hm => by
              obtain ⟨k, ro, b, rfl, y1, y2, y3, y4, y5⟩ := mkArgs_lent2 h1 hk (fun _ _ h => h) j dd hm
              have hdm : dd ∈ l.lent.map (·.2) := List.mem_map.2 ⟨_, hm, rfl⟩
              refine ⟨ro, ro, b, by rw [hlent dd hdm]; exact y1, y1, rfl, fun hS => ?_, y3, by simpa using y4, y2, fun ra hra => ?_⟩
              · obtain ⟨s0, q1, q2, q3⟩ := comeBack_hdr hback _ _ hm
                obtain ⟨r6, q4, q5⟩ := setsOk_mem (setsOk_append (by rw [← hsets]; exact hd.sets : setsOk tick rt (l.sets ++ s) = true)) s0 q1 q3
                rw [q2] at q4
                obtain ⟨r7, q6, q7⟩ := hS.2 rfl
                rw [q4] at q6
                simp only [Option.some.injEq] at q6
                subst q6
                omega
              · rw [Nat.zero_add] at hra
                rw [y5] at hra
                simp only [Option.some.injEq] at hra
                rw [← hra])
            r4 hret.2 (fun b hb => (hI5 b).1 hb) hback kp4
          rw [← setCells_append] at r5 kp5
          have hv : okV (szOf E) w'.heap (Inow z w' (FS3 ++ (f' ++ []))) r.ret u f' := okV_agree ⟨fun b hb => ⟨hI6 b ((hI5 b).1 hb), rfl⟩, fun b _ => rfl⟩ hret.1
          have sl : Slot (szOf E) z tick d (setCells tick rt (l.sets ++ s)) gh' w' (Inow z w' (FS3 ++ (f' ++ []))) (sealRes (E.keep me d) d tick r.ret) u := by
            unfold sealRes
            cases hkp : E.keep me d with
            | true =>
              simp only [if_true]
              exact slot_ok r5 hv (fun hsome r0 h0 => by
                obtain ⟨rr, hrr⟩ := Option.isSome_iff_exists.1 hsome
                exact newOk_lt (hd.new rr (by rw [← he1, with_sets.2.1]; unfold sealRes; rw [hkp]; exact hrr)) h0)
            | false =>
              simp only [Bool.false_eq_true, if_false]
              obtain ⟨_, hI7⟩ := drop_floats r5
              have hseal := okV_seal (I' := Inow z w' (FS3 ++ [])) hI7 (fun b hb => .inr ⟨r5.zone b (by simp [hb]), r5.lt b (by simp [hb]), fun hm => by
                have h1 := r5.uniq b
                have h2 := List.count_pos_iff.2 hb
                have h3 := List.count_pos_iff.2 hm
                simp only [List.count_append, List.count_nil] at h1 h3
                omega⟩) hv
              have h0 := okV_0 (x := ⟨szOf E, w'.heap, Inow z w' (FS3 ++ []), setCells tick rt (l.sets ++ s), gh'⟩) (S := Stm tick (setCells tick rt (l.sets ++ s))) hseal
              exact slot_plain r5 h0.1 h0.2
          obtain ⟨gh2, FS4, z1, z2, z3, z4⟩ := sl
          have hroot : e.root = (sealRes (E.keep me d) d tick r.ret).root := by rw [← he1]; rfl
          have hval : e.val = (sealRes (E.keep me d) d tick r.ret).val := by rw [← he1]; rfl
          show Done _ _ _ _ _ _ _ _ _ _ _
          rw [rtOf_eq, hsets, hroot, hval]
          exact ⟨gh2, FS4, z1, kp5.trans z2 fun a b h => Stm_sets a b h, z3, z4⟩
        · simp [Rd.run] at he1
      · simp [Rd.run] at he1
    · simp [Rd.run] at he1
  · simp [Rd.run] at he1
end call
end Go.TM

/- The call operation. -/
namespace Go.TM
open Go

/-- A function that is entered when it is called. -/
def Enters (E : Env) (f : FuncId) : Prop := ∃ fn, E.P.funcs[f]? = some fn ∧ (fn.name == "runtime.NumGoroutine") = false ∧ fn.body.isNone = false

section call
variable {E : Env} {z : Zn} {n tick : Nat} {fr : List (Nat × T)} {rt : List (Nat × Root)} {gh : Nat → G} {w : World} {FS : List Nat} {a : Act}
variable {call : FuncId → List Arg → Option Res} {me : FuncId} {d : Nat} {ty0 : TypeId} {e : Eff} {o : Oper}

theorem run_callFunc_enter {f : FuncId} (h : Enters E f) (args : Array Value) : (callFunc f args).run E.P w = .ok (.enter f args) w := by
  obtain ⟨fn, h1, h2, h3⟩ := h
  have h4 : ¬ (fn.name = "runtime.NumGoroutine") := by simpa using h2
  have h5 : ¬ (fn.body = none) := by cases hb : fn.body <;> simp_all
  simp [callFunc, program, Sem.run, h1, h4, h5]

theorem callEff_called {f : FuncId} {tys : List TypeId} {ts : List T} (he : (callEff E call me d tick f tys ts).run rt = some e) : ∃ args r, call f args = some r := by
  unfold callEff at he
  obtain ⟨l, h1, he1⟩ := run_bind he
  split at he1
  · split at he1
    · rename_i r hr
      exact ⟨_, r, hr⟩
    · simp [Rd.run] at he1
  · simp [Rd.run] at he1

theorem All2.app2 {x : Cx} {ts1 ts2 : List T} {u1 u2 : List Value} (h1 : All2 (okX x) ts1 u1) (h2 : All2 (okX x) ts2 u2) : All2 (okX x) (ts1 ++ ts2) (u1 ++ u2) := h1.append h2

theorem op_call {c : Call} {g : Operand} (ht : TiOk E) (h : Here E z n tick fr rt gh w FS a) (hcall : ∀ f args r, call f args = some r → Sound E f args r ∧ Enters E f) (ho : o.op = .call c) (hc : c.callee = .value g) (hd : EffOk tick rt d e)
    (he : (evOp E call me (St.val fr) tick d ty0 (.call c)).run rt = some e) :
    Says E z tick rt gh w FS d e (execOp a.eval o) := by
  simp only [evOp, hc] at he
  obtain ⟨tg, h1, he1⟩ := run_bind he
  obtain ⟨ts, h2, he2⟩ := run_bind he1
  clear he he1
  have hg := run_of h1
  clear h1
  obtain ⟨k1, k2⟩ := h.frame.val hg
  obtain ⟨a1, a2⟩ := args_ok h.frame h2
  have fin : ∀ {f : FuncId} {caps : List Value} {tcaps : List T}, a.eval g = .func (.func f) #[] caps.toArray → All2 (okX ⟨szOf E, w.heap, Inow z w (FS ++ []), rt, gh⟩) tcaps caps → (∀ t, t ∈ tcaps → stX (Stm tick rt) t) →
      (callEff E call me d tick f c.argTypes.toList (ts ++ tcaps)).run rt = some e → Says E z tick rt gh w FS d e (execOp a.eval o) := by
    intro f caps tcaps hv hk hs hce
    obtain ⟨args, r, hr⟩ := callEff_called hce
    have hrun : (execOp a.eval o).run E.P w = .ok (.enter f (c.args.map a.eval ++ caps.toArray)) w := by
      simp only [execOp, ho, resolve, hc, hv, Deferred.ofValue, Sem.run_bind, Sem.run_pure, Result.andThen_ok, invoke, Array.empty_append]
      exact run_callFunc_enter (hcall f args r hr).2 _
    unfold Says
    rw [hrun]
    have hres := call_ok (us := c.args.toList.map a.eval ++ caps) ht h (fun f args r hr => (hcall f args r hr).1) hce hd (a1.append hk) (fun t hm => by
      rcases List.mem_append.1 hm with hm | hm
      · exact a2 t hm
      · exact hs t hm)
    have harr : (c.args.toList.map a.eval ++ caps).toArray = c.args.map a.eval ++ caps.toArray := by
      apply Array.ext'
      simp
    rw [harr] at hres
    exact Calls.mono hres fun x w' hx => by cases x <;> exact hx
  split at he2
  · rename_i f first caps
    split at he2
    · rename_i hcond
      simp only [Bool.and_eq_true, Array.isEmpty_iff] at hcond
      obtain ⟨rfl, rfl⟩ := hcond
      exact fin (caps := []) (tcaps := []) (okX_v.1 k1) rfl (fun t hm => by simp at hm) (by rw [List.append_nil]; exact he2)
    · simp [Rd.run] at he2
  · rename_i f caps
    obtain ⟨us, hu, hk⟩ := k1
    have : ∀ {cs : List T} {us : List Value}, All2 (okX0 ⟨szOf E, w.heap, Inow z w (FS ++ []), rt, gh⟩) cs us → (∀ t, t ∈ cs → st0 (Stm tick rt) t) → All2 (okX ⟨szOf E, w.heap, Inow z w (FS ++ []), rt, gh⟩) cs us ∧ ∀ t, t ∈ cs → stX (Stm tick rt) t := by
      intro cs
      induction cs with
      | nil => intro us h _; exact ⟨h, fun t ht => by simp at ht⟩
      | cons c cs ih =>
        intro us h hs
        obtain ⟨b, bs, rfl, q1, q2⟩ := h
        obtain ⟨m1, m2⟩ := lift02 q1 (hs c (by simp))
        obtain ⟨m3, m4⟩ := ih q2 fun t ht => hs t (by simp [ht])
        refine ⟨⟨b, bs, rfl, m1, m3⟩, fun t ht => ?_⟩
        rcases List.mem_cons.1 ht with rfl | ht
        · exact m2
        · exact m4 t ht
    obtain ⟨m1, m2⟩ := this hk k2
    exact fin hu m1 m2 he2
  · simp [Rd.run] at he2
end call
end Go.TM

/- Every operation. -/
namespace Go.TM
open Go

section all
variable {E : Env} {z : Zn} {n tick : Nat} {fr : List (Nat × T)} {rt : List (Nat × Root)} {gh : Nat → G} {w : World} {FS : List Nat} {a : Act}
variable {call : FuncId → List Arg → Option Res} {me : FuncId} {d : Nat} {e : Eff} {o : Oper}

theorem evOp_ok (ht : TiOk E) (h : Here E z n tick fr rt gh w FS a) (hcall : ∀ f args r, call f args = some r → Sound E f args r ∧ Enters E f) (hd : EffOk tick rt d e)
    (he : (evOp E call me (St.val fr) tick d o.type o.op).run rt = some e) : Says E z tick rt gh w FS d e (execOp a.eval o) := by
  cases hop : o.op <;> rw [hop] at he
  case move x => exact op_move h hop he
  case assign x => exact op_assign h hop hd he
  case pick c x y => exact op_pick h hop he
  case alloc ty => exact op_alloc ht h hop hd he
  case box ty x => exact op_box h hop hd he
  case build ty ps => exact op_build ht h hop hd he
  case buildSlice ty k ps => exact op_buildSlice ht h hop hd he
  case load ty x => exact op_load ht h hop he
  case store ty p x => exact op_store ht h hop hd he
  case nilCheck x => exact op_nilCheck h hop he
  case binOp op ty x y cs => exact op_binOp h hop he
  case unOp op ty x => exact op_unOp h hop he
  case makeSlice ty x y => exact op_makeSlice ht h hop hd he
  case fieldAddr ty x f => exact op_fieldAddr ht h hop he
  case field ty x f => exact op_field ht h hop he
  case indexAddr ty x y => exact op_indexAddr ht h hop he
  case index ty x y => exact op_index h hop he
  case extract x k => exact op_extract h hop he
  case slice ty x lo hi mx =>
    cases hm : mx with
    | none => subst hm; exact op_slice_quiet ht h hop he rfl
    | some m => exact op_slice_clip ht h hop hd he (by rw [hm]; simp)
  case convert src dst x =>
    by_cases hs : ∃ s i el, St.val fr x = some (.v (.string s)) ∧ E.ti dst = some i ∧ i.elem = some el
    · obtain ⟨s, i, el, h1, h2, h3⟩ := hs
      exact op_bytes ht h hop hd he h1 h2 h3
    · exact op_convert_quiet h hop he fun s h1 i h2 => by
        cases h3 : i.elem with
        | none => rfl
        | some el => exact absurd ⟨s, i, el, h1, h2, h3⟩ hs
  case makeFunc fn first caps =>
    cases fn with
    | func f => exact op_makeFunc h hop he
    | _ => simp [evOp, Rd.run] at he
  case call c =>
    cases hc : c.callee with
    | value g => exact op_call ht h hcall hop hc hd he
    | invoke r m => simp [evOp, hc, Rd.run] at he
    | builtin b =>
      cases b
      case len => exact op_len ht h hop hc he
      case append => exact op_append ht h hop hc hd he
      case min => exact op_minmax (f := Builtin.min_) h hop hc (fun _ _ _ => rfl) (by simpa only [evOp, hc] using he)
      case max => exact op_minmax (f := Builtin.max_) h hop hc (fun _ _ _ => rfl) (by simpa only [evOp, hc] using he)
      all_goals simp [evOp, hc, Rd.run] at he
  all_goals simp [evOp, Rd.run] at he
end all
end Go.TM

/- One operation of a region. -/
namespace Go.TM
open Go

theorem Vers_setCell {tick rt s} (h : Vers tick rt) : Vers tick (setCell tick rt s) := by
  intro d r hr
  unfold setCell at hr
  cases hs : lk rt s.d with
  | none => rw [hs] at hr; exact h d r hr
  | some r1 =>
    rw [hs] at hr
    by_cases hd : d = s.d
    · subst hd
      rw [lk_up_self] at hr
      simp only [Option.some.injEq] at hr; subst hr
      have := h _ _ hs
      show r1.ver ≤ (if s.hdr then tick else r1.hver) ∧ (if s.hdr then tick else r1.hver) ≤ tick
      split <;> omega
    · rw [lk_up_ne _ _ _ _ hd] at hr
      exact h d r hr

theorem Vers_setCells {tick} : ∀ {ss rt}, Vers tick rt → Vers tick (setCells tick rt ss)
  | [], _, h => h
  | s :: ss, rt, h => by simp only [setCells]; exact Vers_setCells (Vers_setCell h)

theorem Vers_up {tick rt d r} (h : Vers tick rt) (h1 : r.ver = tick) (h2 : r.hver = tick) : Vers tick (up rt d r) := by
  intro d' r' hr
  by_cases hd : d' = d
  · subst hd
    rw [lk_up_self] at hr
    simp only [Option.some.injEq] at hr; subst hr
    omega
  · rw [lk_up_ne _ _ _ _ hd] at hr
    exact h _ _ hr

/-- The machine's state, in a state. -/
structure At (E : Env) (z : Zn) (L : List (T × Value)) (st : St) (gh : Nat → G) (w : World) (FS : List Nat) (a : Act) : Prop extends Here E z st.n st.tick st.fr st.rt gh w FS a where
  srt : Srt st.fr
  lent : ∀ p, p ∈ L → okX ⟨szOf E, w.heap, Inow z w (FS ++ []), st.rt, gh⟩ p.1 p.2 ∧ stX (Stm st.tick st.rt) p.1
  shape : ∀ p, p ∈ L → ∃ i, p.1 = .ptr i 0 [] 0

theorem Act.put_size {a : Act} {dst : Option Tmp} {u : Value} : (a.put dst u).tmps.size = a.tmps.size := by
  cases dst <;> simp [Act.put]

theorem Act.put_def {a : Act} {dst : Option Tmp} {u : Value} : (a.put dst u).defers = a.defers := by
  cases dst <;> rfl

theorem FRel.put {x S n fr a} (f : FRel x S n fr a) {d : Nat} {t : T} {u : Value} (hd : d < n) (h1 : okX x t u) (h2 : stX S t) : FRel x S n (up fr d t) (a.put (some d) u) := by
  refine ⟨by rw [Act.put_size]; exact f.size, by rw [Act.put_def]; exact f.defers, fun d' t' hl => ?_⟩
  by_cases hdd : d' = d
  · subst hdd
    rw [lk_up_self] at hl
    simp only [Option.some.injEq] at hl; subst hl
    refine ⟨u, ?_, h1, h2⟩
    simp only [Act.put]
    rw [Array.getElem?_setIfInBounds_self_of_lt (by rw [f.size]; exact hd)]
  · rw [lk_up_ne _ _ _ _ hdd] at hl
    obtain ⟨u', g1, g2⟩ := f.tmp d' t' hl
    refine ⟨u', ?_, g2⟩
    simp only [Act.put]
    rw [Array.getElem?_setIfInBounds_ne (Ne.symm hdd)]
    exact g1

section one
variable {E : Env} {z : Zn} {L : List (T × Value)} {st st' : St} {gh : Nat → G} {w : World} {FS : List Nat} {a : Act}

/-- From an operation's effect to the next state. -/
theorem apply_ok (h : At E z L st gh w FS a) {dst : Option Tmp} {e : Eff} {u : Value} {w' : World} (hap : st.apply dst e = some st')
    (hd : Done E z st.tick st.rt (rtOf st.tick st.rt (dst.getD 0) e) gh w FS e.val u w') : ∃ gh' FS', At E z L st' gh' w' FS' (a.put dst u) := by
  obtain ⟨gh', FS', d1, d2, d3, d4⟩ := hd
  unfold St.apply at hap
  split at hap
  · cases dst with
    | none =>
      simp only at hap
      split at hap
      · rename_i hn
        simp only [Option.some.injEq] at hap; subst hap
        have hr : rtOf st.tick st.rt (Option.getD none 0) e = setCells st.tick st.rt e.sets := by
          unfold rtOf
          cases hr : e.root with
          | none => rfl
          | some r => rw [hr] at hn; simp at hn
        rw [hr] at d1 d2
        refine ⟨gh', FS', ⟨d1, Vers_setCells h.vers, ⟨h.frame.size, h.frame.defers, fun d t hl => ?_⟩⟩, h.srt, fun p hp => ⟨d2.x (h.lent p hp).2 (h.lent p hp).1, stX_mono (fun a b => Stm_sets a b) (h.lent p hp).2⟩, h.shape⟩
        obtain ⟨u', g1, g2, g3⟩ := h.frame.tmp d t hl
        exact ⟨u', g1, d2.x g3 g2, stX_mono (fun a b => Stm_sets a b) g3⟩
      · simp at hap
    | some d =>
      simp only [Option.getD_some] at d1 d2 d3 d4
      simp only at hap
      split at hap
      · rename_i hdn
        split at hap
        · rename_i hr
          simp only [Option.some.injEq] at hap; subst hap
          simp only [rtOf, hr] at d1 d2 d3 d4
          refine ⟨gh', FS', ⟨d1, Vers_setCells h.vers, ?_⟩, up_srt h.srt, fun p hp => ⟨d2.x (h.lent p hp).2 (h.lent p hp).1, stX_mono (fun a b => Stm_sets a b) (h.lent p hp).2⟩, h.shape⟩
          refine FRel.put (n := st.n) (a := a) ⟨h.frame.size, h.frame.defers, fun d' t hl => ?_⟩ hdn d3 d4
          obtain ⟨u', g1, g2, g3⟩ := h.frame.tmp d' t hl
          exact ⟨u', g1, d2.x g3 g2, stX_mono (fun a b => Stm_sets a b) g3⟩
        · rename_i r hr
          split at hap
          · rename_i hnew
            simp only [Bool.and_eq_true, beq_iff_eq] at hnew
            obtain ⟨_, v1, v2⟩ := hnew
            simp only [Option.some.injEq] at hap; subst hap
            simp only [rtOf, hr] at d1 d2 d3 d4
            refine ⟨gh', FS', ⟨d1, Vers_up (Vers_setCells h.vers) v1 v2, ?_⟩, up_srt h.srt, fun p hp => ⟨d2.x (h.lent p hp).2 (h.lent p hp).1, stX_mono (fun a b hab => (Stm_new v1).1 a b (Stm_sets a b hab)) (h.lent p hp).2⟩, h.shape⟩
            refine FRel.put (n := st.n) (a := a) ⟨h.frame.size, h.frame.defers, fun d' t hl => ?_⟩ hdn d3 d4
            obtain ⟨u', g1, g2, g3⟩ := h.frame.tmp d' t hl
            exact ⟨u', g1, d2.x g3 g2, stX_mono (fun a b hab => (Stm_new v1).1 a b (Stm_sets a b hab)) g3⟩
          · simp at hap
      · simp at hap
  · simp at hap

theorem apply_eff {dst : Option Tmp} {e : Eff} (hap : st.apply dst e = some st') : EffOk st.tick st.rt (dst.getD 0) e := by
  unfold St.apply at hap
  split at hap
  · rename_i h12
    simp only [Bool.and_eq_true] at h12
    refine ⟨h12.1, h12.2, fun r hr => ?_⟩
    cases dst with
    | none =>
      simp only at hap
      split at hap
      · rename_i hn; rw [hr] at hn; simp at hn
      · simp at hap
    | some d =>
      simp only at hap
      split at hap
      · split at hap
        · rename_i hr'; rw [hr] at hr'; simp at hr'
        · split at hap
          · rename_i hnew
            simp only [Bool.and_eq_true] at hnew
            exact hnew.1
          · simp at hap
      · simp at hap
  · simp at hap

theorem apply_keeps {dst : Option Tmp} {e : Eff} (hap : st.apply dst e = some st') : st'.n = st.n ∧ st'.tick = st.tick := by
  unfold St.apply at hap
  split at hap
  · cases dst with
    | none =>
      simp only at hap
      split at hap
      · simp only [Option.some.injEq] at hap; subst hap; exact ⟨rfl, rfl⟩
      · simp at hap
    | some d =>
      simp only at hap
      split at hap
      · split at hap
        · simp only [Option.some.injEq] at hap; subst hap; exact ⟨rfl, rfl⟩
        · split at hap
          · simp only [Option.some.injEq] at hap; subst hap; exact ⟨rfl, rfl⟩
          · simp at hap
      · simp at hap
  · simp at hap

theorem wanted_ok {x : Cx} {S n} {ops : Array Oper} {o : Oper} {fr : List (Nat × T)} {b : Bool} (f : FRel x S n fr a) (h : wanted ops.toList fr o.guard = some b) :
    Region.wanted o (yielded ops a.tmps) = b := by
  unfold wanted at h
  unfold Region.wanted
  split at h
  · rename_i hg; rw [hg]; simpa using h
  · rename_i j v hg
    rw [hg]
    show (yielded ops a.tmps j == some v) = b
    rw [Array.getElem?_toList] at h
    unfold yielded
    split at h
    · simp at h
    · rename_i t ht
      rw [ht]
      split at h
      · rename_i val hl
        obtain ⟨u, g1, g2, _⟩ := f.tmp t _ hl
        have := okX_v.1 g2
        subst this
        simp only [Option.bind_some, g1]
        unfold wantV at h
        split at h
        · rename_i b'
          simp only [Option.some.injEq] at h; subst h
          cases b' <;> cases v <;> rfl
        · simp only [Option.some.injEq] at h; subst h
          rfl
        · simp at h
      · simp at h

/-- One operation. -/
theorem evOne_ok {call : FuncId → List Arg → Option Res} {me : FuncId} {ops : Array Oper} {i : Nat} {o : Oper} {K : Act → World → Prop} {Q : Exit → Act → World → Prop}
    (ht : TiOk E) (hcall : ∀ f args r, call f args = some r → Sound E f args r ∧ Enters E f) (h : At E z L st gh w FS a)
    (he : evOne E call me ops.toList st o = some st') (hi : ops[i]? = some o) (hK : ∀ gh' w' FS' a', At E z L st' gh' w' FS' a' → K a' w') : wpOp E.P ops Q i K a w := by
  unfold evOne at he
  unfold wpOp
  rw [hi]
  simp only
  split at he
  · rename_i b hw
    cases b with
    | true =>
      unfold gif at he
      rw [if_pos rfl] at he
      rw [wanted_ok h.frame hw, if_pos rfl]
      split at he
      · rename_i e hev
        have hs := evOp_ok ht h.toHere hcall (apply_eff he) hev
        refine .inl ?_
        unfold Oper.wp
        unfold Says Upon at hs
        revert hs
        generalize (execOp a.eval o).run E.P w = r
        intro hs
        split at hs
        · rename_i u w'
          obtain ⟨gh', FS', h1⟩ := apply_ok h he hs
          exact hK _ _ _ _ h1
        · rename_i w'
          obtain ⟨gh', FS', h1⟩ := apply_ok h he hs
          exact hK _ _ _ _ h1
        · rename_i f args w'
          simp only [Oper.upon]
          refine Calls.mono hs fun x w'' hx => ?_
          cases x with
          | returned u =>
            obtain ⟨gh', FS', h1⟩ := apply_ok h he hx
            exact hK _ _ _ _ h1
          | panicked c => exact hx.elim
          | outgrown => exact hx.elim
        · exact hs.elim
      · simp at he
    | false =>
      unfold gif at he
      rw [if_neg (by simp)] at he
      simp only at he
      rw [wanted_ok h.frame hw, if_neg (by simp)]
      obtain ⟨gh', FS', h1⟩ := apply_ok h he h.toHere.done_val
      exact hK _ _ _ _ h1
  · simp at he

/-- Some operations, by their numbers. -/
def evIdx (E : Env) (call : FuncId → List Arg → Option Res) (me : FuncId) (ops : List Oper) : List Nat → St → Option St
  | [], st => some st
  | i :: r, st => match ops[i]? with
    | some o => match evOne E call me ops st o with | some st' => evIdx E call me ops r st' | none => none
    | none => evIdx E call me ops r st

theorem evIdx_ok {call : FuncId → List Arg → Option Res} {me : FuncId} {ops : Array Oper} {Q : Exit → Act → World → Prop}
    (ht : TiOk E) (hcall : ∀ f args r, call f args = some r → Sound E f args r ∧ Enters E f) : ∀ (l : List Nat) {st st' : St} {gh w FS a}, At E z L st gh w FS a →
    evIdx E call me ops.toList l st = some st' → (∀ gh' w' FS' a', At E z L st' gh' w' FS' a' → Q .normal a' w') → wpOps E.P ops Q l a w
  | [], st, st', gh, w, FS, a, h, he, hK => by
    simp only [evIdx, Option.some.injEq] at he; subst he
    exact hK _ _ _ _ h
  | i :: l, st, st', gh, w, FS, a, h, he, hK => by
    rw [wpOps_cons]
    simp only [evIdx, Array.getElem?_toList] at he
    cases hi : ops[i]? with
    | none =>
      rw [hi] at he
      unfold wpOp; rw [hi]
      exact evIdx_ok ht hcall l h he hK
    | some o =>
      rw [hi] at he
      simp only at he
      split at he
      · rename_i st1 h1
        exact evOne_ok ht hcall h h1 hi fun gh' w' FS' a' h' => evIdx_ok ht hcall l h' he hK
      · simp at he
end one
end Go.TM

/- The end of a region: what is no longer asked for goes. -/
namespace Go.TM
open Go

/-- Some of the roots, in their order. -/
inductive Part {α : Type} : List (Nat × α) → List (Nat × α) → Prop
  | nil : Part [] []
  | drop {p l m} : Part l m → Part l (p :: m)
  | keep {p l m} : Part l m → Part (p :: l) (p :: m)

theorem Part.rfl' {α : Type} : ∀ (l : List (Nat × α)), Part l l
  | [] => .nil
  | _ :: l => .keep (Part.rfl' l)

theorem Part.mem {α : Type} {l m : List (Nat × α)} (h : Part l m) : ∀ p, p ∈ l → p ∈ m := by
  induction h with
  | nil => intro p h; exact h
  | drop _ ih => intro p h; exact List.mem_cons_of_mem _ (ih p h)
  | keep _ ih =>
    intro p h
    rcases List.mem_cons.1 h with rfl | h
    · simp
    · exact List.mem_cons_of_mem _ (ih p h)

theorem Part.trans {α : Type} {a b c : List (Nat × α)} (h1 : Part a b) (h2 : Part b c) : Part a c := by
  induction h2 generalizing a with
  | nil => exact h1
  | drop _ ih => exact .drop (ih h1)
  | keep _ ih =>
    cases h1 with
    | drop h1 => exact .drop (ih h1)
    | keep h1 => exact .keep (ih h1)

theorem Part.srt {α : Type} {l m : List (Nat × α)} (h : Part l m) (hs : Srt m) : Srt l := by
  induction h with
  | nil => trivial
  | drop _ ih => exact ih hs.2
  | keep h ih => exact ⟨fun q hq => hs.1 q (h.mem q hq), ih hs.2⟩

theorem lk_of_mem {α : Type} : ∀ {l : List (Nat × α)} {d : Nat} {x : α}, Srt l → (d, x) ∈ l → lk l d = some x
  | [], d, x, _, h => by simp at h
  | (k, y) :: r, d, x, hs, h => by
    simp only [lk]
    rcases List.mem_cons.1 h with h | h
    · simp only [Prod.mk.injEq] at h; obtain ⟨rfl, rfl⟩ := h; simp
    · have : k < d := hs.1 _ h
      rw [if_neg (by omega)]
      exact lk_of_mem hs.2 h

theorem Part.lk {α : Type} {l m : List (Nat × α)} (h : Part l m) (hs : Srt m) {d : Nat} {x : α} (hl : lk l d = some x) : TM.lk m d = some x :=
  lk_of_mem hs (h.mem _ (lk_mem hl))

theorem only_part {α : Type} (ds : List Nat) : ∀ (l : List (Nat × α)), Part (only ds l) l
  | [] => .nil
  | (k, x) :: r => by
    simp only [only]
    split
    · exact .keep (only_part ds r)
    · exact .drop (only_part ds r)

theorem unspent_part : ∀ (l : List (Nat × Root)), Part (unspent l) l
  | [] => .nil
  | (k, x) :: r => by
    simp only [unspent]
    split
    · exact .drop (unspent_part r)
    · exact .keep (unspent_part r)

theorem okRts_fewer {sz h I gh} {rt' rt : List (Nat × Root)} (hp : Part rt' rt) : ∀ {fs}, okRts sz h I gh rt fs → ∃ fs', okRts sz h I gh rt' fs' ∧ ∀ x, fs'.count x ≤ fs.count x := by
  induction hp with
  | nil => intro fs h; exact ⟨fs, h, fun _ => Nat.le_refl _⟩
  | drop _ ih =>
    intro fs h
    obtain ⟨f1, f2, rfl, _, h2⟩ := h
    obtain ⟨fs', g1, g2⟩ := ih h2
    refine ⟨fs', g1, fun x => ?_⟩
    have := g2 x
    simp only [List.count_append]
    omega
  | keep _ ih =>
    intro fs h
    obtain ⟨f1, f2, rfl, h1, h2⟩ := h
    obtain ⟨fs', g1, g2⟩ := ih h2
    refine ⟨f1 ++ fs', ⟨f1, fs', rfl, h1, g1⟩, fun x => ?_⟩
    have := g2 x
    simp only [List.count_append]
    omega

theorem stampOf_le (r : Root) : stampOf r ≤ 1 := by unfold stampOf; split <;> omega

theorem lk_reRt : ∀ {rt : List (Nat × Root)} {d : Nat} {r : Root}, lk (reRt rt) d = some r → ∃ r0, lk rt d = some r0 ∧ r = { r0 with ver := stampOf r0, hver := 1 }
  | [], d, r, h => by simp [reRt, lk] at h
  | (k, x) :: rt, d, r, h => by
    simp only [reRt, lk] at h ⊢
    split at h
    · rename_i hk
      simp only [Option.some.injEq] at h
      exact ⟨x, by rw [if_pos hk], h.symm⟩
    · rename_i hk
      obtain ⟨r0, h1, h2⟩ := lk_reRt h
      exact ⟨r0, by rw [if_neg hk]; exact h1, h2⟩

theorem lk_reFr {rt : List (Nat × Root)} : ∀ {fr : List (Nat × T)} {d : Nat} {t : T}, lk (reFr rt fr) d = some t → ∃ t0, lk fr d = some t0 ∧ t = reX rt t0
  | [], d, t, h => by simp [reFr, lk] at h
  | (k, x) :: fr, d, t, h => by
    simp only [reFr, lk] at h ⊢
    split at h
    · rename_i hk
      simp only [Option.some.injEq] at h
      exact ⟨x, by rw [if_pos hk], h.symm⟩
    · rename_i hk
      obtain ⟨t0, h1, h2⟩ := lk_reFr h
      exact ⟨t0, by rw [if_neg hk]; exact h1, h2⟩

theorem reRt_mem : ∀ {rt : List (Nat × Root)} {p}, p ∈ reRt rt → ∃ q, q ∈ rt ∧ q.1 = p.1
  | [], p, h => by simp [reRt] at h
  | (k, x) :: rt, p, h => by
    simp only [reRt] at h
    rcases List.mem_cons.1 h with rfl | h
    · exact ⟨(k, x), by simp, rfl⟩
    · obtain ⟨q, h1, h2⟩ := reRt_mem h
      exact ⟨q, by simp [h1], h2⟩

theorem reRt_srt : ∀ {rt : List (Nat × Root)}, Srt rt → Srt (reRt rt)
  | [], h => h
  | (k, x) :: rt, h => ⟨fun p hp => by obtain ⟨q, h1, h2⟩ := reRt_mem hp; rw [← h2]; exact h.1 q h1, reRt_srt h.2⟩

theorem reFr_mem {rt : List (Nat × Root)} : ∀ {fr : List (Nat × T)} {p}, p ∈ reFr rt fr → ∃ q, q ∈ fr ∧ q.1 = p.1
  | [], p, h => by simp [reFr] at h
  | (k, x) :: fr, p, h => by
    simp only [reFr] at h
    rcases List.mem_cons.1 h with rfl | h
    · exact ⟨(k, x), by simp, rfl⟩
    · obtain ⟨q, h1, h2⟩ := reFr_mem h
      exact ⟨q, by simp [h1], h2⟩

theorem reFr_srt {rt : List (Nat × Root)} : ∀ {fr : List (Nat × T)}, Srt fr → Srt (reFr rt fr)
  | [], h => h
  | (k, x) :: fr, h => ⟨fun p hp => by obtain ⟨q, h1, h2⟩ := reFr_mem hp; rw [← h2]; exact h.1 q h1, reFr_srt h.2⟩

theorem reRt_ok {sz h I gh} : ∀ {rt : List (Nat × Root)} {fs}, okRts sz h I gh rt fs → okRts sz h I gh (reRt rt) fs
  | [], fs, hk => hk
  | (k, x) :: rt, fs, hk => by
    obtain ⟨f1, f2, rfl, h1, h2⟩ := hk
    exact ⟨f1, f2, rfl, h1, reRt_ok h2⟩

section re
variable {sz : TypeId → Nat} {h : Array Obj} {I : Nat → Prop} {rt : List (Nat × Root)} {gh : Nat → G}

theorem stm_re {d s : Nat} (hs : s ≤ 1) : Stm 2 (reRt rt) d s := ⟨by omega, fun he => by omega⟩

theorem re0_ok {t : T} {u : Value} (hk : okX0 ⟨sz, h, I, rt, gh⟩ t u) : okX0 ⟨sz, h, I, reRt rt, gh⟩ (re0 rt t) u ∧ st0 (Stm 2 (reRt rt)) (re0 rt t) := by
  have dead : okX0 ⟨sz, h, I, reRt rt, gh⟩ .dead u ∧ st0 (Stm 2 (reRt rt)) .dead := ⟨okX0_dead, trivial⟩
  cases t with
  | ref d v p c n =>
    simp only [re0]
    split
    · rename_i r hl
      split
      · rename_i hv
        refine ⟨⟨hk.1, fun r' hr' _ => ?_⟩, stm_re (by omega)⟩
        obtain ⟨r0, hl0, rfl⟩ := lk_reRt hr'
        rw [hl] at hl0; simp only [Option.some.injEq] at hl0; subst hl0
        exact hk.2 r hl hv
      · exact dead
    · exact dead
  | ptr d v p o =>
    cases p with
    | nil =>
      simp only [re0]
      split
      · rename_i r hl
        split
        · rename_i hv
          refine ⟨⟨hk.1, fun r' hr' _ => ?_⟩, stm_re (stampOf_le r)⟩
          obtain ⟨r0, hl0, rfl⟩ := lk_reRt hr'
          rw [hl] at hl0; simp only [Option.some.injEq] at hl0; subst hl0
          exact hk.2 r hl hv
        · exact dead
      · exact dead
    | cons q qs =>
      simp only [re0]
      split
      · rename_i r hl
        split
        · rename_i hv
          refine ⟨⟨hk.1, fun r' hr' _ => ?_⟩, stm_re (by omega)⟩
          obtain ⟨r0, hl0, rfl⟩ := lk_reRt hr'
          rw [hl] at hl0; simp only [Option.some.injEq] at hl0; subst hl0
          exact hk.2 r hl hv
        · exact dead
      · exact dead
  | _ => exact ⟨hk, trivial⟩

theorem All2.map_l {α β γ : Type} {R : α → β → Prop} {Q : γ → β → Prop} {f : α → γ} : ∀ {as : List α} {bs : List β}, (∀ a b, a ∈ as → R a b → Q (f a) b) → All2 R as bs → All2 Q (as.map f) bs
  | [], bs, _, h => h
  | a :: as, bs, hi, h => by
    obtain ⟨b, bs', rfl, h1, h2⟩ := h
    exact ⟨b, bs', rfl, hi a b (by simp) h1, All2.map_l (fun a b ha => hi a b (by simp [ha])) h2⟩

theorem All2.left {α β : Type} {R : α → β → Prop} : ∀ {as : List α} {bs : List β}, All2 R as bs → ∀ a, a ∈ as → ∃ b, R a b
  | [], bs, _, a, h => by simp at h
  | x :: as, bs, hk, a, h => by
    obtain ⟨b, bs', rfl, h1, h2⟩ := hk
    rcases List.mem_cons.1 h with rfl | h
    · exact ⟨b, h1⟩
    · exact All2.left h2 a h

theorem re1_ok {t : T} {u : Value} (hk : okX1 ⟨sz, h, I, rt, gh⟩ t u) : okX1 ⟨sz, h, I, reRt rt, gh⟩ (re1 rt t) u ∧ st1 (Stm 2 (reRt rt)) (re1 rt t) := by
  have plain : ∀ {t}, (∀ cs, t ≠ .agg cs) → (∀ f cs, t ≠ .clo f cs) → okX0 ⟨sz, h, I, rt, gh⟩ t u → okX1 ⟨sz, h, I, reRt rt, gh⟩ (re0 rt t) u ∧ st1 (Stm 2 (reRt rt)) (re0 rt t) := fun _ _ hk => by
    obtain ⟨m1, m2⟩ := re0_ok hk
    exact lift01 m1 m2
  cases t with
  | agg cs =>
    obtain ⟨us, h1, h2⟩ := hk
    refine ⟨⟨us, h1, h2.map_l fun a b _ hr => (re0_ok hr).1⟩, fun t ht => ?_⟩
    obtain ⟨a, ha, rfl⟩ := List.mem_map.1 ht
    obtain ⟨b, hb⟩ := h2.left a ha
    exact (re0_ok hb).2
  | clo f cs =>
    obtain ⟨us, h1, h2⟩ := hk
    refine ⟨⟨us, h1, h2.map_l fun a b _ hr => (re0_ok hr).1⟩, fun t ht => ?_⟩
    obtain ⟨a, ha, rfl⟩ := List.mem_map.1 ht
    obtain ⟨b, hb⟩ := h2.left a ha
    exact (re0_ok hb).2
  | v a0 => exact plain (t := .v a0) (by simp) (by simp) hk
  | tup a0 => exact plain (t := .tup a0) (by simp) (by simp) hk
  | sl a0 a1 => exact plain (t := .sl a0 a1) (by simp) (by simp) hk
  | own a0 a1 => exact plain (t := .own a0 a1) (by simp) (by simp) hk
  | ref a0 a1 a2 a3 a4 => exact plain (t := .ref a0 a1 a2 a3 a4) (by simp) (by simp) hk
  | ptr a0 a1 a2 a3 => exact plain (t := .ptr a0 a1 a2 a3) (by simp) (by simp) hk
  | ipt a0 => exact plain (t := .ipt a0) (by simp) (by simp) hk
  | dead => exact plain (t := .dead) (by simp) (by simp) hk

theorem reX_ok {t : T} {u : Value} (hk : okX ⟨sz, h, I, rt, gh⟩ t u) : okX ⟨sz, h, I, reRt rt, gh⟩ (reX rt t) u ∧ stX (Stm 2 (reRt rt)) (reX rt t) := by
  have plain : ∀ {t}, okX1 ⟨sz, h, I, rt, gh⟩ t u → okX ⟨sz, h, I, reRt rt, gh⟩ (re1 rt t) u ∧ stX (Stm 2 (reRt rt)) (re1 rt t) := fun hk => by
    obtain ⟨m1, m2⟩ := re1_ok hk
    exact lift12 m1 m2
  cases t with
  | tup cs =>
    obtain ⟨us, h1, h2⟩ := hk
    refine ⟨⟨us, h1, h2.map_l fun a b _ hr => (re1_ok hr).1⟩, fun t ht => ?_⟩
    obtain ⟨a, ha, rfl⟩ := List.mem_map.1 ht
    obtain ⟨b, hb⟩ := h2.left a ha
    exact (re1_ok hb).2
  | v a0 => exact plain (t := .v a0) hk
  | agg a0 => exact plain (t := .agg a0) hk
  | clo a0 a1 => exact plain (t := .clo a0 a1) hk
  | sl a0 a1 => exact plain (t := .sl a0 a1) hk
  | own a0 a1 => exact plain (t := .own a0 a1) hk
  | ref a0 a1 a2 a3 a4 => exact plain (t := .ref a0 a1 a2 a3 a4) hk
  | ptr a0 a1 a2 a3 => exact plain (t := .ptr a0 a1 a2 a3) hk
  | ipt a0 => exact plain (t := .ipt a0) hk
  | dead => exact plain (t := .dead) hk
end re

section strike
variable {E : Env} {z : Zn} {L : List (T × Value)} {st : St} {gh : Nat → G} {w : World} {FS : List Nat} {a : Act}

/-- Fewer roots, fewer temporaries, and a later region. -/
theorem At.fewer (h : At E z L st gh w FS a) {fr' : List (Nat × T)} {rt' : List (Nat × Root)} {w' : World} (hf : Part fr' st.fr) (hr : Part rt' st.rt)
    (hw1 : w'.heap = w.heap) (hw2 : w'.os = w.os) (hw3 : w'.output = w.output) (hw4 : w'.tape = w.tape) :
    ∃ FS', At E z L ⟨st.n, reFr rt' fr', reRt rt', 2⟩ gh w' FS' a := by
  obtain ⟨FS', g1, g2⟩ := okRts_fewer hr h.heap.roots
  have hm : ∀ b, b ∈ FS' ++ [] → b ∈ FS ++ [] := fun b hb => by
    have h0 := List.count_pos_iff.2 hb
    have h1 := g2 b
    rw [← List.count_pos_iff]
    simp only [List.count_append] at *
    omega
  have hI : ∀ b, Inow z w (FS ++ []) b → Inow z w' (FS' ++ []) b := fun b hb =>
    h.heap.imm_grow (by rw [hw1]; exact Nat.le_refl _) (fun b hb => .inl (hm b hb)) hb
  have kp : Keeps ⟨szOf E, w.heap, Inow z w (FS ++ []), st.rt, gh⟩ ⟨szOf E, w'.heap, Inow z w' (FS' ++ []), rt', gh⟩ (Stm st.tick st.rt) := by
    refine ⟨rfl, fun b hb => ⟨hI b hb, by show w'.heap[b]? = w.heap[b]?; rw [hw1]⟩, fun d s r' _ h1 h2 => ⟨r', hr.lk h.heap.srt h1, h2, rfl, ?_⟩, fun d s r' _ h1 h2 => ⟨r', hr.lk h.heap.srt h1, h2, rfl⟩⟩
    show skL (szOf E) w'.heap w.heap r'.cells r'.cells (gh d).vals (gh d).vals
    exact skL_self h.heap.roots (fun b _ => by rw [hw1]) (hr.lk h.heap.srt h1)
  have heap1 : HRel (szOf E) z rt' gh w' FS' [] := by
    refine ⟨hr.srt h.heap.srt, ?_, ?_, ?_, ?_, ?_⟩
    · rw [hw1]
      exact okRts_agree ⟨fun b hb => ⟨hI b hb, rfl⟩, fun b _ => rfl⟩ g1
    · intro x
      have := h.heap.uniq x
      have := g2 x
      simp only [List.count_append] at *
      omega
    · intro b hb; rw [hw1]; exact h.heap.lt b (hm b hb)
    · intro b hb; exact h.heap.zone b (hm b hb)
    · exact h.heap.fr.step (tot := []) (fun b hb => by simp at hb) hw2 hw3 hw4 (by rw [hw1]; exact Nat.le_refl _) (fun b _ _ => by rw [hw1])
  refine ⟨FS', ⟨⟨reRt_srt heap1.srt, reRt_ok heap1.roots, heap1.uniq, heap1.lt, heap1.zone, heap1.fr⟩, ?_, h.frame.size, h.frame.defers, ?_⟩, reFr_srt (hf.srt h.srt), ?_, h.shape⟩
  · intro d r hl
    obtain ⟨r0, _, rfl⟩ := lk_reRt hl
    have := stampOf_le r0
    exact ⟨this, by show 1 ≤ 2; omega⟩
  · intro d t hl
    obtain ⟨t0, q0, rfl⟩ := lk_reFr hl
    obtain ⟨u, q1, q2, q3⟩ := h.frame.tmp d t0 (hf.lk h.srt q0)
    obtain ⟨m1, m2⟩ := reX_ok (kp.x q3 q2)
    exact ⟨u, q1, m1, m2⟩
  · intro p hp
    obtain ⟨i, hi⟩ := h.shape p hp
    obtain ⟨l1, l2⟩ := h.lent p hp
    have := kp.x l2 l1
    rw [hi] at this ⊢
    obtain ⟨k1, k2⟩ := this
    refine ⟨⟨k1, fun r' hr' hv => ?_⟩, by omega, fun hx => by simp at hx⟩
    obtain ⟨r0, hl0, rfl⟩ := lk_reRt hr'
    refine k2 r0 hl0 ?_
    simp only [stampOf] at hv
    split at hv
    · assumption
    · simp at hv

theorem At.world (h : At E z L st gh w FS a) {w' : World} (hw1 : w'.heap = w.heap) (hw2 : w'.os = w.os) (hw3 : w'.output = w.output) (hw4 : w'.tape = w.tape) : At E z L st gh w' FS a := by
  have e : ∀ tot b, Inow z w' tot b ↔ Inow z w tot b := fun tot b => by unfold Inow; rw [hw1]
  have e' : Inow z w' (FS ++ []) = Inow z w (FS ++ []) := funext fun b => propext (e _ b)
  refine ⟨⟨⟨h.heap.srt, ?_, h.heap.uniq, ?_, h.heap.zone, ?_⟩, h.vers, ?_⟩, h.srt, by rw [e', hw1]; exact h.lent, h.shape⟩
  · rw [e', hw1]; exact h.heap.roots
  · rw [hw1]; exact h.heap.lt
  · exact h.heap.fr.step (tot := []) (fun b hb => by simp at hb) hw2 hw3 hw4 (by rw [hw1]; exact Nat.le_refl _) (fun b _ _ => by rw [hw1])
  · rw [e', hw1]; exact h.frame

theorem without_part {α : Type} (ds : List Nat) : ∀ (l : List (Nat × α)), Part (without ds l) l
  | [] => .nil
  | (k, x) :: r => by
    simp only [without]
    split
    · exact .drop (without_part ds r)
    · exact .keep (without_part ds r)

theorem At.without (h : At E z L st gh w FS a) (ds : List Nat) : At E z L ⟨st.n, TM.without ds st.fr, st.rt, st.tick⟩ gh w FS a :=
  ⟨⟨h.heap, h.vers, h.frame.size, h.frame.defers, fun d t hl => h.frame.tmp d t ((without_part ds st.fr).lk h.srt hl)⟩, (without_part ds st.fr).srt h.srt, h.lent, h.shape⟩

theorem strike_ok (h : At E z L st gh w FS a) (l : Option (List Tmp × List Tmp)) : ∃ FS', At E z L (strike l st) gh w FS' a := by
  unfold strike
  cases l with
  | none => exact h.fewer (Part.rfl' _) (unspent_part _) rfl rfl rfl rfl
  | some l => exact h.fewer (only_part _ _) ((only_part _ _).trans (unspent_part _)) rfl rfl rfl rfl
end strike
end Go.TM
