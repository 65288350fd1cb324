import Derived.Test.YtelhpkghpoldlaaGreatL1
import Derived.Test.YtelhpkghpoldlaaGreatL4

namespace Go.TM.Lr
open Go Go.TM Go.Proofs
section
variable (P : Program) (t : TypeId) (x y : Operand)
theorem pr_mul (k : IntKind) (a b : Int) : pureRun P (do eqGuard .mul t x y (.int k a) (.int k b); binOp .mul t (.int k a) (.int k b)) = some (.int k (k.wrap (a * b))) := by cases k <;> rfl
theorem pr_rem (a : Int) : pureRun P (do eqGuard .rem t x y (.int .i64 a) (.int .i64 65521); binOp .rem t (.int .i64 a) (.int .i64 65521)) = some (.int .i64 (Int.tmod a 65521)) := rfl
theorem pr_rem2 (a : Int) : pureRun P (do eqGuard .rem t x y (.int .i64 a) (.int .i64 256); binOp .rem t (.int .i64 a) (.int .i64 256)) = some (.int .i64 (Int.tmod a 256)) := rfl
theorem pr_quo (a : Int) : pureRun P (do eqGuard .quo t x y (.int .i64 a) (.int .i64 256); binOp .quo t (.int .i64 a) (.int .i64 256)) = some (.int .i64 (IntKind.i64.wrap (Int.tdiv a 256))) := rfl
theorem pr_shr (a : Int) : pureRun P (do eqGuard .shr t x y (.int .i64 a) (.int .u64 8); binOp .shr t (.int .i64 a) (.int .u64 8)) = some (.int .i64 (Int.fdiv a 256)) := rfl
theorem pr_cvt (a : Int) : pureRun Tryz.prog (convert 3 5 (.int .i64 a)) = some (.int .u8 (IntKind.u8.wrap a)) := by kernel_rfl
theorem pr_cvt2 (a : Int) : pureRun Tryz.prog (convert 5 2 (.int .u8 a)) = some (.int .i64 (IntKind.i64.wrap a)) := by kernel_rfl
theorem pr_cvt3 (a : Int) : pureRun Tryz.prog (convert 2 5 (.int .i64 a)) = some (.int .u8 (IntKind.u8.wrap a)) := by kernel_rfl
theorem pr_cvt4 (a : Int) : pureRun Tryz.prog (convert 5 3 (.int .u8 a)) = some (.int .i64 (IntKind.i64.wrap a)) := by kernel_rfl
theorem pr_u8 : pureRun Tryz.prog (isU8Slice 45 9) = some true := by kernel_rfl
theorem pr_u8b : pureRun Tryz.prog (isU8Slice 45 9) = some true := by kernel_rfl
end
end Go.TM.Lr

namespace Go.TM.Lr
open Go Go.TM Go.Proofs
set_option maxRecDepth 20000
attribute [local congr] gif_cg
attribute [local simp] footOf noClash clash upsets setsHit setHits layHits layMeets setsMeet evFeet
attribute [local simp] pr_mul pr_rem pr_rem2 pr_quo pr_shr pr_cvt pr_cvt2 pr_cvt3 pr_cvt4 pr_u8

/-! ### bytes -/
abbrev vU (n : Int) : T := .v (.int .u8 n)
abbrev yV (b : UInt8) : List T := [vU b.toNat]
abbrev yS (l : List UInt8) : T := .sl 5 (l.map yV)
def strOf (l : List UInt8) : ByteArray := ⟨l.toArray⟩

theorem bytesOf_map : ∀ (l : List UInt8), bytesOfT (l.map yV) = some l
  | [] => rfl
  | b :: l => by
    have ih := bytesOf_map l
    simp only [List.map_cons, bytesOfT, ih]
    simp
theorem bytesT_eq (s : ByteArray) : bytesT s = s.data.toList.map yV := rfl
theorem strOf_list (l : List UInt8) : (strOf l).data.toList = l := by simp [strOf]
theorem strOf_size (l : List UInt8) : (strOf l).size = l.length := by simp [strOf, ByteArray.size]

theorem f_isPrint (c : Int) : fo 143 [A (vU c)] = some (R (vB (inR c 32 126))) := by
  refine orc_143 1 ?_
  simp (maxSteps := 1000000) +contextual -dsimp [Tryz.f143, inR]
theorem f_l1Plain (c : Int) : fo 141 [A (vU c)] = some (R (vB (inR c 32 126))) := by
  refine orc_141 1 ?_
  simp (maxSteps := 1000000) +contextual -dsimp [Tryz.f141, inR]

def prints (bs : List UInt8) : Bool := bs.all fun b => inR b.toNat 32 126

theorem lp142 (s : ByteArray) (hs : s.size < 2 ^ 62) : ∀ (rest : List UInt8) (i : Nat), s.data.toList.drop i = rest →
    evLoop E (orc E) (142 : Nat) (rest.length + 1) (loopOf Tryz.f142 0) ⟨18, [(0, vS s), (1, .v (.func (.func (143 : Nat)) #[] #[])), (7, vI s.size), (8, vI i)], [], 2⟩ =
    (if prints rest = true then some (.exit 0, ⟨18, [(0, vS s), (1, .v (.func (.func (143 : Nat)) #[] #[])), (7, vI s.size), (8, vI (i + rest.length : Nat)), (9, vB false)], [], 2⟩) else some (.ret, ⟨18, [(4, vB false)], [], 2⟩))
  | [], i, h => by
    have hge : s.size ≤ i := by rw [← size_list]; exact List.drop_eq_nil_iff.1 h
    have hlt : ltI (i : Int) (s.size : Int) = false := ltI_f (by omega)
    rw [loop_eq]
    simp +contextual -dsimp [Tryz.f142, hlt, prints]
  | b :: rest, i, h => by
    obtain ⟨hi, hb, hr⟩ := byte_at h
    have hlt : ltI (i : Int) (s.size : Int) = true := ltI_t (by omega)
    have hw : IntKind.i64.wrap ((i : Int) + 1) = ((i + 1 : Nat) : Int) := by rw [wrapI] <;> omega
    have hx := pr_idx s i b (by omega) (by simpa using hb)
    have g := f_isPrint b.toNat
    cases c : inR b.toNat 32 126
    · have hm : prints (b :: rest) = false := by simp [prints, c]
      rw [hm, if_neg (by simp)]
      refine evLoop_out ?_ (by simp)
      simp (maxSteps := 1000000) +contextual -dsimp [Tryz.f142, hlt, hx, g, c]
    · have hm : prints (b :: rest) = prints rest := by simp [prints, c]
      have ih := lp142 s hs rest (i + 1) hr
      have he : i + 1 + rest.length = i + (rest.length + 1) := by omega
      rw [he] at ih
      rw [hm]
      refine evLoop_next ?_ (by simpa only [List.length_cons] using ih)
      simp (maxSteps := 1000000) +contextual -dsimp [Tryz.f142, hlt, hx, hw, g, c]

theorem f_areAllPrint (s : ByteArray) (hs : s.size < 2 ^ 62) : fo 142 [A (vS s), A (.v (.func (.func (143 : Nat)) #[] #[]))] = some (R (vB (prints s.data.toList))) := by
  have hlp := lp142 s hs s.data.toList 0 rfl
  refine orc_142 (s.data.toList.length + 1) ?_
  simp -dsimp [Tryz.f142] at hlp
  cases c : prints s.data.toList
  · simp (maxSteps := 1000000) +contextual -dsimp [Tryz.f142, hlp, c]
  · simp (maxSteps := 1000000) +contextual -dsimp [Tryz.f142, hlp, c]

def lnM (s : ByteArray) : Int := first2 (ci (notB (inR s.size 1 40)) 2) (ci (notB (prints s.data.toList)) 5)
theorem f_LineFault (s : ByteArray) (hs : s.size < 2 ^ 62) : fo 115 [A (vS s)] = some (R (vI (lnM s))) := by
  have g := f_areAllPrint s hs
  refine orc_115 1 ?_
  simp (maxSteps := 1000000) +contextual -dsimp [Tryz.f115, g, f_inRange, f_ci, f_first2, lnM, List.set]

theorem lp113 (s : ByteArray) (hs : s.size < 2 ^ 62) : ∀ (rest : List UInt8) (i : Nat), s.data.toList.drop i = rest →
    evLoop E (orc E) (113 : Nat) (rest.length + 1) (loopOf Tryz.f113 0) ⟨23, [(0, vS s), (3, vI i)], [], 2⟩ =
    (if prints rest = true then some (.exit 0, ⟨23, [(0, vS s), (3, vI (i + rest.length : Nat)), (15, vB false)], [], 2⟩) else some (.ret, ⟨23, [(2, vI 5)], [], 2⟩))
  | [], i, h => by
    have hge : s.size ≤ i := by rw [← size_list]; exact List.drop_eq_nil_iff.1 h
    have hlt : ltI (i : Int) (s.size : Int) = false := ltI_f (by omega)
    rw [loop_eq]
    simp +contextual -dsimp [Tryz.f113, hlt, prints]
  | b :: rest, i, h => by
    obtain ⟨hi, hb, hr⟩ := byte_at h
    have hlt : ltI (i : Int) (s.size : Int) = true := ltI_t (by omega)
    have hw : IntKind.i64.wrap ((i : Int) + 1) = ((i + 1 : Nat) : Int) := by rw [wrapI] <;> omega
    have hx := pr_idx s i b (by omega) (by simpa using hb)
    have g := f_l1Plain b.toNat
    cases c : inR b.toNat 32 126
    · have hm : prints (b :: rest) = false := by simp [prints, c]
      rw [hm, if_neg (by simp)]
      refine evLoop_out ?_ (by simp)
      simp (maxSteps := 1000000) +contextual -dsimp [Tryz.f113, hlt, hx, g, c]
    · have hm : prints (b :: rest) = prints rest := by simp [prints, c]
      have ih := lp113 s hs rest (i + 1) hr
      have he : i + 1 + rest.length = i + (rest.length + 1) := by omega
      rw [he] at ih
      rw [hm]
      refine evLoop_next ?_ (by simpa only [List.length_cons] using ih)
      simp (maxSteps := 1000000) +contextual -dsimp [Tryz.f113, hlt, hx, hw, g, c]

theorem f_Line4 (s : ByteArray) (hs : s.size < 2 ^ 62) : fo 113 [A (vS s)] = some (R (vI (lnM s))) := by
  have hlp := lp113 s hs s.data.toList 0 rfl
  have e : lnM s = if orB (ltI s.size 1) (ltI 40 s.size) = true then 2 else if prints s.data.toList = true then 0 else 5 := by
    unfold lnM
    by_cases h : 1 ≤ s.size ∧ s.size ≤ 40
    · rw [if_neg (by simp [orB, ltI]; omega)]
      have : inR s.size 1 40 = true := by simp [inR, andB, leI]; omega
      rw [this]
      cases prints s.data.toList <;> rfl
    · rw [if_pos (by simp [orB, ltI]; omega)]
      have : inR s.size 1 40 = false := by simp [inR, andB, leI]; omega
      rw [this]; rfl
  rw [e]
  refine orc_113 (s.data.toList.length + 1) ?_
  simp -dsimp [Tryz.f113] at hlp
  cases c1 : orB (ltI s.size 1) (ltI 40 s.size)
  · cases c : prints s.data.toList
    · rw [c] at hlp
      simp (maxSteps := 1000000) +contextual -dsimp [Tryz.f113, hlp, c1]
    · rw [c] at hlp
      simp (maxSteps := 1000000) +contextual -dsimp [Tryz.f113, hlp, c1]
  · simp (maxSteps := 1000000) +contextual -dsimp [Tryz.f113, c1]

theorem f_Equal (a b : List UInt8) : fo 144 [A (yS a), A (yS b)] = some (R (vB (eqS (strOf a) (strOf b)))) := by
  have h1 := bytesOf_map a
  have h2 := bytesOf_map b
  refine orc_144 1 ?_
  simp (maxSteps := 1000000) +contextual -dsimp [Tryz.f144, h1, h2, strOf]

theorem f_HasPrefix (a b : List UInt8) : fo 116 [A (yS a), A (yS b)] = some (R (vB (andB (leI b.length a.length) (eqS (strOf (a.take b.length)) (strOf b))))) := by
  have g := f_Equal (a.take b.length) b
  simp only [yS, List.map_take] at g
  refine orc_116 1 ?_
  cases c : leI b.length a.length
  · simp (maxSteps := 1000000) +contextual -dsimp [Tryz.f116, c]
  · have hle : b.length ≤ a.length := by simp [leI] at c; omega
    have hle2 : (b.length : Int) ≤ a.length := by omega
    simp (maxSteps := 1000000) +contextual -dsimp [Tryz.f116, g, c, hle2]
end Go.TM.Lr

namespace Go.TM.Lr
open Go Go.TM Go.Proofs
set_option maxRecDepth 20000
attribute [local congr] gif_cg
attribute [local simp] footOf noClash clash upsets setsHit setHits layHits layMeets setsMeet evFeet
attribute [local simp] pr_mul pr_rem pr_rem2 pr_quo pr_shr pr_cvt pr_cvt2 pr_cvt3 pr_cvt4 pr_u8

def sumM : List UInt8 → Int → Int
  | [], s => s
  | b :: r, s => sumM r (Int.tmod (s * 251 + b.toNat) 65521)

theorem sum_step {s : Int} (b : UInt8) (h0 : 0 ≤ s) (h1 : s < 65521) : 0 ≤ Int.tmod (s * 251 + b.toNat) 65521 ∧ Int.tmod (s * 251 + b.toNat) 65521 < 65521 := by
  rw [Int.tmod_eq_emod_of_nonneg (by omega)]
  omega
theorem sum_bd : ∀ (l : List UInt8) (s : Int), 0 ≤ s → s < 65521 → 0 ≤ sumM l s ∧ sumM l s < 65521
  | [], s, h0, h1 => ⟨h0, h1⟩
  | b :: l, s, h0, h1 => by
    obtain ⟨a, c⟩ := sum_step b h0 h1
    exact sum_bd l _ a c

theorem u8_wrap (x : Int) : IntKind.u8.wrap x = x % 256 := by rfl

def hiB (s : Int) : UInt8 := UInt8.ofNat (s.toNat / 256)
def loB (s : Int) : UInt8 := UInt8.ofNat s.toNat
theorem hiB_eq {s : Int} (h0 : 0 ≤ s) (h1 : s < 65521) : ((hiB s).toNat : Int) = IntKind.u8.wrap (Int.fdiv s 256) := by
  rw [u8_wrap, Int.fdiv_eq_ediv_of_nonneg _ (by omega)]
  unfold hiB
  rw [UInt8.toNat_ofNat']
  omega
theorem hiB_eq2 {s : Int} (h0 : 0 ≤ s) (h1 : s < 65521) : ((hiB s).toNat : Int) = IntKind.u8.wrap (IntKind.i64.wrap (Int.tdiv s 256)) := by
  have e : Int.tdiv s 256 = s / 256 := Int.tdiv_eq_ediv_of_nonneg h0
  have w : IntKind.i64.wrap (Int.tdiv s 256) = Int.tdiv s 256 := by rw [wrapI] <;> omega
  rw [w, e, u8_wrap]
  unfold hiB
  rw [UInt8.toNat_ofNat']
  omega
theorem loB_eq {s : Int} (h0 : 0 ≤ s) : ((loB s).toNat : Int) = IntKind.u8.wrap s := by
  rw [u8_wrap]
  unfold loB
  rw [UInt8.toNat_ofNat']
  omega
theorem loB_eq2 {s : Int} (h0 : 0 ≤ s) : ((loB s).toNat : Int) = IntKind.u8.wrap (Int.tmod s 256) := by
  rw [u8_wrap, Int.tmod_eq_emod_of_nonneg h0]
  unfold loB
  rw [UInt8.toNat_ofNat']
  omega

def bodyB (l : List UInt8) : List UInt8 := UInt8.ofNat l.length :: l
def packB (l : List UInt8) : List UInt8 := bodyB l ++ [hiB (sumM (bodyB l) 1), loB (sumM (bodyB l) 1)]

theorem lp117 (all : List UInt8) (hall : all.length ≤ 1000) : ∀ (rest : List UInt8) (i : Nat) (s : Int), all.drop i = rest → 0 ≤ s → s < 65521 →
    evLoop E (orc E) (117 : Nat) (rest.length + 1) (loopOf Tryz.f117 0) ⟨34, [(3, .ref 3 1 [] 0 all.length), (4, vI s), (13, .ref 3 1 [] 0 all.length), (14, vI all.length), (15, vI i)], [(3, ⟨1, 1, false, [.own 5 (all.map yV)]⟩)], 2⟩ =
    some (.exit 0, ⟨34, [(3, .ref 3 1 [] 0 all.length), (4, vI (sumM rest s)), (13, .ref 3 1 [] 0 all.length), (14, vI all.length), (15, vI (i + rest.length : Nat)), (16, vB false)], [(3, ⟨1, 1, false, [.own 5 (all.map yV)]⟩)], 2⟩)
  | [], i, s, h, h0, h1 => by
    have hge : all.length ≤ i := by simpa using h
    have hlt : ltI (i : Int) (all.length : Int) = false := ltI_f (by omega)
    rw [loop_eq]
    simp +contextual -dsimp [Tryz.f117, hlt, sumM]
  | b :: rest, i, s, h, h0, h1 => by
    obtain ⟨hi, hc, hr⟩ := drop_cons h
    have hlt : ltI (i : Int) (all.length : Int) = true := ltI_t (by omega)
    have hw : IntKind.i64.wrap ((i : Int) + 1) = ((i + 1 : Nat) : Int) := by rw [wrapI] <;> omega
    have hb : b.toNat < 256 := b.toNat_lt
    have hw1 : IntKind.i64.wrap (s * 251) = s * 251 := by rw [wrapI] <;> omega
    have hw2 : IntKind.i64.wrap (b.toNat : Int) = b.toNat := by rw [wrapI] <;> omega
    have hw3 : IntKind.i64.wrap (s * 251 + b.toNat) = s * 251 + b.toNat := by rw [wrapI] <;> omega
    have he : i + 1 + rest.length = i + (rest.length + 1) := by omega
    obtain ⟨q0, q1⟩ := sum_step b h0 h1
    have ih := lp117 all hall rest (i + 1) _ hr q0 q1
    rw [he] at ih
    have hm : sumM (b :: rest) s = sumM rest (Int.tmod (s * 251 + b.toNat) 65521) := rfl
    rw [hm]
    refine evLoop_next ?_ (by simpa only [List.length_cons] using ih)
    simp (maxSteps := 1000000) +contextual -dsimp [Tryz.f117, hlt, hi, hc, hw, hw1, hw2, hw3]

theorem lp114 (all : List UInt8) (hall : all.length ≤ 1000) : ∀ (rest : List UInt8) (i : Nat) (s : Int), all.drop i = rest → 0 ≤ s → s < 65521 →
    evLoop E (orc E) (114 : Nat) (rest.length + 1) (loopOf Tryz.f114 0) ⟨37, [(3, .ref 3 1 [] 0 all.length), (4, vI s), (5, vI i)], [(3, ⟨1, 1, false, [.own 5 (all.map yV)]⟩)], 2⟩ =
    some (.exit 0, ⟨37, [(3, .ref 3 1 [] 0 all.length), (4, vI (sumM rest s)), (5, vI (i + rest.length : Nat)), (16, vB false)], [(3, ⟨1, 1, false, [.own 5 (all.map yV)]⟩)], 2⟩)
  | [], i, s, h, h0, h1 => by
    have hge : all.length ≤ i := by simpa using h
    have hlt : ltI (i : Int) (all.length : Int) = false := ltI_f (by omega)
    rw [loop_eq]
    simp +contextual -dsimp [Tryz.f114, hlt, sumM]
  | b :: rest, i, s, h, h0, h1 => by
    obtain ⟨hi, hc, hr⟩ := drop_cons h
    have hlt : ltI (i : Int) (all.length : Int) = true := ltI_t (by omega)
    have hw : IntKind.i64.wrap ((i : Int) + 1) = ((i + 1 : Nat) : Int) := by rw [wrapI] <;> omega
    have hb : b.toNat < 256 := b.toNat_lt
    have hw1 : IntKind.i64.wrap (s * 251) = s * 251 := by rw [wrapI] <;> omega
    have hw2 : IntKind.i64.wrap (b.toNat : Int) = b.toNat := by rw [wrapI] <;> omega
    have hw3 : IntKind.i64.wrap (s * 251 + b.toNat) = s * 251 + b.toNat := by rw [wrapI] <;> omega
    have he : i + 1 + rest.length = i + (rest.length + 1) := by omega
    obtain ⟨q0, q1⟩ := sum_step b h0 h1
    have ih := lp114 all hall rest (i + 1) _ hr q0 q1
    rw [he] at ih
    have hm : sumM (b :: rest) s = sumM rest (Int.tmod (s * 251 + b.toNat) 65521) := rfl
    rw [hm]
    refine evLoop_next ?_ (by simpa only [List.length_cons] using ih)
    simp (maxSteps := 1000000) +contextual -dsimp [Tryz.f114, hlt, hi, hc, hw, hw1, hw2, hw3]

theorem clean_yV (l : List UInt8) : cleanEs (l.map yV) = true := by induction l <;> simp_all [cleanEs, cleanL, clean]

theorem f_pack (l : List UInt8) (hl : l.length ≤ 40) : fo 117 [A (vS (strOf l))] = some ⟨.own 5 ((packB l).map yV), [], true⟩ := by
  have hlp := lp117 (bodyB l) (by simp [bodyB]; omega) (bodyB l) 0 1 rfl (by omega) (by omega)
  obtain ⟨b0, b1⟩ := sum_bd (bodyB l) 1 (by omega) (by omega)
  have e1 := hiB_eq b0 b1
  have e2 := loB_eq b0
  have hc := clean_yV (packB l)
  have hs := strOf_size l
  have hbt : bytesT (strOf l) = l.map yV := by rw [bytesT_eq, strOf_list]
  have hbody : ([vU (IntKind.u8.wrap (l.length : Int))] : List T) :: l.map yV = (bodyB l).map yV := by
    have : ((UInt8.ofNat l.length).toNat : Int) = IntKind.u8.wrap (l.length : Int) := by rw [u8_wrap, UInt8.toNat_ofNat']; omega
    simp only [bodyB, List.map_cons, yV, this]
  have hpk : (bodyB l).map yV ++ [[vU (IntKind.u8.wrap (Int.fdiv (sumM (bodyB l) 1) 256))], [vU (IntKind.u8.wrap (sumM (bodyB l) 1))]] = (packB l).map yV := by
    simp only [packB, List.map_append, List.map_cons, List.map_nil, yV, e1, e2]
  have hbl : (bodyB l).length = l.length + 1 := rfl
  have hm1 : 1 + l.length ≤ maxElems := by unfold maxElems; omega
  have hm2 : l.length + 1 + 2 ≤ maxElems := by unfold maxElems; omega
  refine orc_117 (l.length + 1 + 1) ?_
  simp -dsimp [Tryz.f117, hbl] at hlp
  simp (maxSteps := 1000000) +contextual -dsimp [Tryz.f117, hlp, hs, hbt, hbody, hbl, hm1, hm2, hpk, hc, List.set]
end Go.TM.Lr

namespace Go.TM.Lr
open Go Go.TM Go.Proofs
set_option maxRecDepth 20000
attribute [local congr] gif_cg
attribute [local simp] footOf noClash clash upsets setsHit setHits layHits layMeets setsMeet evFeet
attribute [local simp] pr_mul pr_rem pr_rem2 pr_quo pr_shr pr_cvt pr_cvt2 pr_cvt3 pr_cvt4 pr_u8
theorem pr_u8c : pureRun Tryz.prog (isU8Slice 45 9) = some true := by kernel_rfl

theorem f_pack4 (l : List UInt8) (hl : l.length ≤ 40) : fo 114 [A (vS (strOf l))] = some ⟨.own 5 ((packB l).map yV), [], true⟩ := by
  have hlp := lp114 (bodyB l) (by simp [bodyB]; omega) (bodyB l) 0 1 rfl (by omega) (by omega)
  obtain ⟨b0, b1⟩ := sum_bd (bodyB l) 1 (by omega) (by omega)
  have e1 := hiB_eq2 b0 b1
  have e2 := loB_eq2 b0
  have hc := clean_yV (packB l)
  have hs := strOf_size l
  have hbt : bytesT (strOf l) = l.map yV := by rw [bytesT_eq, strOf_list]
  have hbody : ([vU (IntKind.u8.wrap (l.length : Int))] : List T) :: l.map yV = (bodyB l).map yV := by
    have : ((UInt8.ofNat l.length).toNat : Int) = IntKind.u8.wrap (l.length : Int) := by rw [u8_wrap, UInt8.toNat_ofNat']; omega
    simp only [bodyB, List.map_cons, yV, this]
  have hpk : (bodyB l).map yV ++ [[vU (IntKind.u8.wrap (IntKind.i64.wrap (Int.tdiv (sumM (bodyB l) 1) 256)))], [vU (IntKind.u8.wrap (Int.tmod (sumM (bodyB l) 1) 256))]] = (packB l).map yV := by
    simp only [packB, List.map_append, List.map_cons, List.map_nil, yV, e1, e2]
  have hbl : (bodyB l).length = l.length + 1 := rfl
  have hm1 : 1 + l.length ≤ maxElems := by unfold maxElems; omega
  have hm2 : l.length + 1 + 2 ≤ maxElems := by unfold maxElems; omega
  refine orc_114 (l.length + 1 + 1) ?_
  simp -dsimp [Tryz.f114, hbl] at hlp
  simp (maxSteps := 1000000) +contextual -dsimp [Tryz.f114, hlp, hs, hbt, hbody, hbl, hm1, hm2, hpk, hc, List.set]

/-- The line at the beginning of bytes, if there is one. -/
def headB (l : List UInt8) : Nat := match l with | [] => 0 | b :: _ => b.toNat
def lineB (l : List UInt8) : List UInt8 := (l.drop 1).take (headB l)
def longB (l : List UInt8) : Bool := decide (l ≠ [] ∧ headB l + 3 ≤ l.length)
def goodB (l : List UInt8) : Bool := eqI (lnM (strOf (lineB l))) 0
def sameB (l : List UInt8) : Bool := eqS (strOf (l.take (packB (lineB l)).length)) (strOf (packB (lineB l)))
def okL (l : List UInt8) : Bool := andB (goodB l) (andB (leI (packB (lineB l)).length l.length) (sameB l))

theorem lineB_len {l : List UInt8} (h : longB l = true) : (lineB l).length = headB l := by
  simp [longB] at h
  simp [lineB]
  omega
theorem pack_len (l : List UInt8) : (packB l).length = l.length + 3 := by simp [packB, bodyB]

theorem seal_yV (l : List UInt8) : sealEs (l.map yV) = l.map yV := sealEs_map (f := yV) (g := yV) (fun a => by simp [sealL, seal_]) l

set_option maxHeartbeats 2000000 in
theorem f_lineAt (l : List UInt8) (hl : l.length < 2 ^ 62) : fo 95 [A (yS l)] = some (if longB l = true then R2 (vS (strOf (lineB l))) (vB (okL l)) else R2 (vS emp) (vB false)) := by
  have wU : IntKind.i64.wrap 1 = 1 := rfl
  cases l with
  | nil =>
    refine orc_95 1 ?_
    have h0 : eqI ((([] : List UInt8).length : Nat) : Int) 0 = true := rfl
    simp (maxSteps := 1000000) +contextual -dsimp [Tryz.f95, longB, eqI_self]
  | cons b r =>
    have hb : b.toNat < 256 := b.toNat_lt
    have hw2 : IntKind.i64.wrap (b.toNat : Int) = b.toNat := by rw [wrapI] <;> omega
    have hw3 : IntKind.i64.wrap (1 + (b.toNat : Int)) = 1 + b.toNat := by rw [wrapI] <;> omega
    have hw4 : IntKind.i64.wrap (1 + (b.toNat : Int) + 2) = 1 + b.toNat + 2 := by rw [wrapI] <;> omega
    have he : eqI (r.length + 1 : Int) 0 = false := by simp [eqI]; omega
    cases q : longB (b :: r)
    · have q1 : ltI (r.length + 1 : Int) (1 + b.toNat + 2) = true := by simp [longB, headB] at q; simp [ltI]; omega
      refine orc_95 1 ?_
      simp (maxSteps := 1000000) +contextual -dsimp [Tryz.f95, he, hw2, hw3, hw4, q1]
    · have hlen := lineB_len q
      have q1 : ltI (r.length + 1 : Int) (1 + b.toNat + 2) = false := by simp [longB, headB] at q; simp [ltI]; omega
      have hq : b.toNat + 3 ≤ r.length + 1 := by simpa [longB, headB] using q
      have hsl : ((b :: r).map yV).drop 1 = r.map yV := rfl
      have hln : lineB (b :: r) = r.take b.toNat := rfl
      have hbo : bytesOfT ((r.map yV).take ((1 + (b.toNat : Int)).toNat - 1)) = some (lineB (b :: r)) := by
        have e : (1 + (b.toNat : Int)).toNat - 1 = b.toNat := by omega
        rw [e, hln, ← List.map_take]; exact bytesOf_map _
      have hst : (⟨(lineB (b :: r)).toArray⟩ : ByteArray) = strOf (lineB (b :: r)) := rfl
      have hle1 : (1 : Int) ≤ 1 + b.toNat := by omega
      have hle2 : (1 : Int) + b.toNat ≤ r.length + 1 := by omega
      have g1 := f_LineFault (strOf (lineB (b :: r))) (by rw [strOf_size, hlen]; simp [headB]; omega)
      refine orc_95 1 ?_
      cases q2 : eqI (lnM (strOf (lineB (b :: r)))) 0
      · have hok : okL (b :: r) = false := by simp [okL, goodB, q2, andB]
        simp (maxSteps := 1000000) +contextual -dsimp [Tryz.f95, he, hw2, hw3, hw4, q1, g1, q2, hbo, hst, hle1, hle2, hok]
      · have hl40 : (lineB (b :: r)).length ≤ 40 := by
          simp only [eqI, beq_iff_eq] at q2
          unfold lnM at q2
          have := ci_zero (by omega) (first2_zero q2).1
          rw [strOf_size] at this
          simp [notB, inR, andB, leI] at this
          omega
        have hok : okL (b :: r) = andB (leI (packB (lineB (b :: r))).length (b :: r).length) (sameB (b :: r)) := by simp [okL, goodB, q2, andB]
        have g2 := f_pack (lineB (b :: r)) hl40
        have g3 := f_HasPrefix (b :: r) (packB (lineB (b :: r)))
        have hse := seal_yV (packB (lineB (b :: r)))
        rw [hok]
        unfold sameB
        simp only [yS, List.map_cons] at g3
        simp (maxSteps := 1000000) +contextual -dsimp [Tryz.f95, he, hw2, hw3, hw4, q1, g1, g2, g3, hse, q2, hbo, hst, hle1, hle2]
end Go.TM.Lr

namespace Go.TM.Lr
open Go Go.TM Go.Proofs
set_option maxRecDepth 20000
attribute [local congr] gif_cg
attribute [local simp] footOf noClash clash upsets setsHit setHits layHits layMeets setsMeet evFeet
attribute [local simp] pr_mul pr_rem pr_rem2 pr_quo pr_shr pr_cvt pr_cvt2 pr_cvt3 pr_cvt4 pr_u8

def ok4 (l : List UInt8) : Bool := andB (longB l) (okL l)

theorem good_len {l : List UInt8} (h : goodB l = true) : 1 ≤ (lineB l).length ∧ (lineB l).length ≤ 40 := by
  simp only [goodB, eqI, beq_iff_eq] at h
  unfold lnM at h
  have := ci_zero (by omega) (first2_zero h).1
  rw [strOf_size] at this
  simp [notB, inR, andB, leI] at this
  omega

theorem eqS_comm (a b : ByteArray) : eqS a b = eqS b a := by simp [eqS, Bool.beq_comm]

theorem ok4_head {l : List UInt8} (h : ok4 l = true) : longB l = true ∧ goodB l = true ∧ sameB l = true ∧ 1 ≤ headB l := by
  simp [ok4, okL, andB] at h
  have := good_len h.2.1
  rw [lineB_len h.1] at this
  exact ⟨h.1, h.2.1, h.2.2.2, this.1⟩

set_option maxHeartbeats 2000000 in
theorem f_l13One (l : List UInt8) (hl : l.length < 2 ^ 62) : fo 94 [A (yS l)] = some (if ok4 l = true then R2 (vS (strOf (lineB l))) (vI ((headB l + 3 : Nat))) else R2 (vS emp) (vI 0)) := by
  cases q0 : ltI l.length 4
  · cases l with
    | nil => simp [ltI] at q0
    | cons b r =>
      have hb : b.toNat < 256 := b.toNat_lt
      have hr : 4 ≤ r.length + 1 := by simp [ltI] at q0; omega
      have q0' : ltI ((r.length : Int) + 1) 4 = false := ltI_f (by omega)
      have hw2 : IntKind.i64.wrap (b.toNat : Int) = b.toNat := by rw [wrapI] <;> omega
      have hw3 : IntKind.i64.wrap ((b.toNat : Int) + 3) = b.toNat + 3 := by rw [wrapI] <;> omega
      have hw4 : IntKind.i64.wrap ((b.toNat : Int) + 3 - 2) = b.toNat + 1 := by rw [wrapI] <;> omega
      cases q : orB (ltI ((b.toNat : Int) + 3) 4) (ltI ((r.length : Int) + 1) ((b.toNat : Int) + 3))
      · have hn : 1 ≤ b.toNat ∧ b.toNat + 3 ≤ r.length + 1 := by simp [orB, ltI] at q; omega
        have hlong : longB (b :: r) = true := by simp [longB, headB]; omega
        have hlen := lineB_len hlong
        have hln : lineB (b :: r) = r.take b.toNat := rfl
        have hbo : bytesOfT ((r.map yV).take b.toNat) = some (lineB (b :: r)) := by
          rw [hln, ← List.map_take]; exact bytesOf_map _
        have hst : (⟨(lineB (b :: r)).toArray⟩ : ByteArray) = strOf (lineB (b :: r)) := rfl
        have hle1 : (1 : Int) ≤ b.toNat + 1 := by omega
        have hle2 : (b.toNat : Int) + 1 ≤ r.length + 1 := by omega
        have g1 := f_Line4 (strOf (lineB (b :: r))) (by rw [strOf_size, hlen]; simp [headB]; omega)
        refine orc_94 1 ?_
        cases q2 : eqI (lnM (strOf (lineB (b :: r)))) 0
        · have hok : ok4 (b :: r) = false := by simp [ok4, okL, goodB, q2, andB]
          simp (maxSteps := 1000000) +contextual -dsimp [Tryz.f94, q0', hw2, hw3, hw4, q, g1, q2, hbo, hst, hle1, hle2, hok]
        · have hl40 : (lineB (b :: r)).length ≤ 40 := (good_len q2).2
          have g2 := f_pack4 (lineB (b :: r)) hl40
          have hse := seal_yV (packB (lineB (b :: r)))
          have hbp := bytesOf_map (packB (lineB (b :: r)))
          have hpl : (packB (lineB (b :: r))).length = b.toNat + 3 := by rw [pack_len, hlen]; rfl
          have hbt : bytesOfT ((yV b :: r.map yV).take ((b.toNat : Int) + 3).toNat) = some ((b :: r).take (b.toNat + 3)) := by
            have e : ((b.toNat : Int) + 3).toNat = b.toNat + 3 := by omega
            have e2 : (yV b :: r.map yV : List (List T)) = (b :: r).map yV := rfl
            rw [e, e2, ← List.map_take]; exact bytesOf_map _
          have hst2 : (⟨(packB (lineB (b :: r))).toArray⟩ : ByteArray) = strOf (packB (lineB (b :: r))) := rfl
          have hst3 : (⟨((b :: r).take (b.toNat + 3)).toArray⟩ : ByteArray) = strOf ((b :: r).take (b.toNat + 3)) := rfl
          have hok : ok4 (b :: r) = eqS (strOf (packB (lineB (b :: r)))) (strOf ((b :: r).take (b.toNat + 3))) := by
            have : leI ((b.toNat + 3 : Nat) : Int) ((b :: r).length : Nat) = true := by simp [leI]; omega
            simp only [ok4, hlong, okL, goodB, q2, this, sameB, hpl, andB, Bool.true_and]
            rw [eqS_comm]
          have hle3 : (0 : Int) ≤ b.toNat + 3 := by omega
          have hle4 : (b.toNat : Int) + 3 ≤ r.length + 1 := by omega
          have hhd : headB (b :: r) = b.toNat := rfl
          rw [hok]
          generalize (b :: r).take (b.toNat + 3) = tk at *
          cases q3 : eqS (strOf (packB (lineB (b :: r)))) (strOf tk)
          · simp (maxSteps := 1000000) +contextual -dsimp [Tryz.f94, q0', hw2, hw3, hw4, q, g1, g2, hse, hbp, hbt, hst, hst2, hst3, q2, q3, hbo, hle1, hle2, hle3, hle4]
          · simp (maxSteps := 1000000) +contextual -dsimp [Tryz.f94, q0', hw2, hw3, hw4, q, g1, g2, hse, hbp, hbt, hst, hst2, hst3, hhd, q2, q3, hbo, hle1, hle2, hle3, hle4]
      · have hok : ok4 (b :: r) = false := by
          cases h : ok4 (b :: r)
          · rfl
          · exfalso
            obtain ⟨h1, _, _, h4⟩ := ok4_head h
            simp [longB, headB] at h1 h4
            simp [orB, ltI] at q
            omega
        refine orc_94 1 ?_
        simp (maxSteps := 1000000) +contextual -dsimp [Tryz.f94, q0', hw2, hw3, q, hok]
  · have hok : ok4 l = false := by
      cases h : ok4 l
      · rfl
      · exfalso
        obtain ⟨h1, _, _, h4⟩ := ok4_head h
        simp [longB] at h1
        simp [ltI] at q0
        omega
    refine orc_94 1 ?_
    simp (maxSteps := 1000000) +contextual -dsimp [Tryz.f94, q0, hok]
end Go.TM.Lr

namespace Go.TM.Lr
open Go Go.TM Go.Proofs
set_option maxRecDepth 20000
attribute [local congr] gif_cg
attribute [local simp] footOf noClash clash upsets setsHit setHits layHits layMeets setsMeet evFeet
attribute [local simp] pr_mul pr_rem pr_rem2 pr_quo pr_shr pr_cvt pr_cvt2 pr_cvt3 pr_cvt4 pr_u8

abbrev sV (s : ByteArray) : List T := [vS s]
def lineS (l : List UInt8) : ByteArray := if longB l = true then strOf (lineB l) else emp

theorem f_lineAt2 (l : List UInt8) (hl : l.length < 2 ^ 62) : fo 95 [A (yS l)] = some (R2 (vS (lineS l)) (vB (ok4 l))) := by
  rw [f_lineAt l hl]
  unfold lineS ok4
  cases longB l <;> simp [andB]

def restM : Nat → List UInt8 → List UInt8
  | 0, d => d
  | f + 1, d => if ok4 d = true then restM f (d.drop (headB d + 3)) else d
def linesM : Nat → List UInt8 → List ByteArray
  | 0, _ => []
  | f + 1, d => if ok4 d = true then strOf (lineB d) :: linesM f (d.drop (headB d + 3)) else []

theorem take_all {α : Type} (l : List α) (n : Nat) (h : l.length ≤ n) : l.take n = l := List.take_of_length_le h

set_option maxHeartbeats 1000000 in
theorem lp79 : ∀ (f : Nat) (data : List UInt8) (acc : List ByteArray), data.length < f → acc.length + data.length < 4194304 →
    evLoop E (orc E) (79 : Nat) f (loopOf Tryz.f79 0) ⟨27, [(0, yS data), (4, .ref 4 1 [] 0 acc.length)], [(4, ⟨1, 1, false, [.own 9 (acc.map sV)]⟩)], 2⟩ =
    some (.ret, ⟨27, [(2, .ref 4 1 [] 0 (acc ++ linesM f data).length), (3, yS (restM f data))], [(4, ⟨1, 1, false, [.own 9 ((acc ++ linesM f data).map sV)]⟩)], 2⟩)
  | 0, _, _, h, _ => by omega
  | f + 1, data, acc, h, hb => by
    have g := f_lineAt2 data (by omega)
    cases q : ok4 data
    · have h1 : restM (f + 1) data = data := by simp [restM, q]
      have h2 : acc ++ linesM (f + 1) data = acc := by simp [linesM, q]
      rw [h1, h2]
      refine evLoop_out ?_ (by simp)
      simp (maxSteps := 1000000) +contextual -dsimp [Tryz.f79, g, q]
    · obtain ⟨k1, k2, k3, k4⟩ := ok4_head q
      have hle : headB data + 3 ≤ data.length := by simp [longB] at k1; exact k1.2
      have hln : (strOf (lineB data)).size = headB data := by rw [strOf_size, lineB_len k1]
      have hls : lineS data = strOf (lineB data) := by simp [lineS, k1]
      have h1 : restM (f + 1) data = restM f (data.drop (headB data + 3)) := by simp [restM, q]
      have h2 : acc ++ linesM (f + 1) data = (acc ++ [strOf (lineB data)]) ++ linesM f (data.drop (headB data + 3)) := by simp [linesM, q]
      have ih := lp79 f (data.drop (headB data + 3)) (acc ++ [strOf (lineB data)]) (by simp; omega) (by simp; omega)
      rw [h1, h2]
      refine evLoop_next ?_ ih
      have hw1 : IntKind.i64.wrap (1 + (headB data : Int)) = 1 + headB data := by rw [wrapI] <;> omega
      have hw2 : IntKind.i64.wrap (1 + (headB data : Int) + 2) = 1 + headB data + 2 := by rw [wrapI] <;> omega
      have hm : acc.length + 1 ≤ maxElems := by unfold maxElems; omega
      have e0 : (0 : Int) ≤ 1 + headB data + 2 := by omega
      have e1 : (1 + (headB data : Int) + 2) ≤ data.length := by omega
      have e2 : (1 + (headB data : Int) + 2).toNat = headB data + 3 := by omega
      have e3 : (List.drop (headB data + 3) (data.map yV)).take (data.length - (headB data + 3)) = List.drop (headB data + 3) (data.map yV) := take_all _ _ (by simp)
      simp (maxSteps := 1000000) +contextual -dsimp [Tryz.f79, g, q, hls, hln, hw1, hw2, hm, e0, e1, e2, e3, List.set]

set_option maxHeartbeats 1000000 in
theorem lp78 (data : List UInt8) (hd : data.length < 4194304) : ∀ (f : Nat) (k : Nat) (acc : List ByteArray), k ≤ data.length → data.length - k < f → acc.length + (data.length - k) < 4194304 →
    evLoop E (orc E) (78 : Nat) f (loopOf Tryz.f78 0) ⟨27, [(0, yS data), (4, .ref 4 1 [] 0 acc.length), (5, vI k)], [(4, ⟨1, 1, false, [.own 9 (acc.map sV)]⟩)], 2⟩ =
    some (.ret, ⟨27, [(2, .ref 4 1 [] 0 (acc ++ linesM f (data.drop k)).length), (3, vI (data.length - (restM f (data.drop k)).length : Nat))], [(4, ⟨1, 1, false, [.own 9 ((acc ++ linesM f (data.drop k)).map sV)]⟩)], 2⟩)
  | 0, _, _, _, h, _ => by omega
  | f + 1, k, acc, hk, h, hb => by
    have g := f_l13One (data.drop k) (by simp; omega)
    simp only [yS, List.map_drop] at g
    have hk2 : (k : Int) ≤ data.length := by omega
    have e4 : (List.drop k (data.map yV)).take (data.length - k) = List.drop k (data.map yV) := take_all _ _ (by simp)
    cases q : ok4 (data.drop k)
    · rw [q] at g
      simp only [Bool.false_eq_true, if_false] at g
      have h1 : restM (f + 1) (data.drop k) = data.drop k := by simp [restM, q]
      have h2 : acc ++ linesM (f + 1) (data.drop k) = acc := by simp [linesM, q]
      have h3 : data.length - (data.length - k) = k := by omega
      rw [h1, h2, List.length_drop, h3]
      refine evLoop_out ?_ (by simp)
      simp (maxSteps := 1000000) +contextual -dsimp [Tryz.f78, g, hk2, e4, eqI_self]
    · rw [q] at g
      simp only [if_true] at g
      obtain ⟨k1, k2, k3, k4⟩ := ok4_head q
      have hle : headB (data.drop k) + 3 ≤ data.length - k := by simp [longB] at k1; omega
      have hdd : (data.drop k).drop (headB (data.drop k) + 3) = data.drop (k + (headB (data.drop k) + 3)) := by rw [List.drop_drop]
      have h1 : restM (f + 1) (data.drop k) = restM f (data.drop (k + (headB (data.drop k) + 3))) := by simp only [restM, q, if_true, hdd]
      have h2 : acc ++ linesM (f + 1) (data.drop k) = (acc ++ [strOf (lineB (data.drop k))]) ++ linesM f (data.drop (k + (headB (data.drop k) + 3))) := by simp only [linesM, q, if_true, hdd]; simp
      have ih := lp78 data hd f (k + (headB (data.drop k) + 3)) (acc ++ [strOf (lineB (data.drop k))]) (by omega) (by omega) (by simp; omega)
      rw [h1, h2]
      refine evLoop_next ?_ ih
      have hm : acc.length + 1 ≤ maxElems := by unfold maxElems; omega
      have hn0 : eqI ((headB (data.drop k) : Int) + 3) 0 = false := by simp [eqI]; omega
      have hw1 : IntKind.i64.wrap ((k : Int) + ((headB (data.drop k) : Int) + 3)) = k + (headB (data.drop k) + 3) := by rw [wrapI] <;> omega
      simp (maxSteps := 1000000) +contextual -dsimp [Tryz.f78, g, hk2, e4, hn0, hw1, hm, List.set]
end Go.TM.Lr

namespace Go.TM.Lr
open Go Go.TM Go.Proofs
set_option maxRecDepth 20000
attribute [local congr] gif_cg
attribute [local simp] footOf noClash clash upsets setsHit setHits layHits layMeets setsMeet evFeet

def restB (d : List UInt8) : List UInt8 := restM (d.length + 1) d
def linesB (d : List UInt8) : List ByteArray := linesM (d.length + 1) d
theorem clean_sV (l : List ByteArray) : cleanEs (l.map sV) = true := by induction l <;> simp_all [cleanEs, cleanL, clean]
theorem seal_sV (l : List ByteArray) : sealEs (l.map sV) = l.map sV := sealEs_map (f := sV) (g := sV) (fun a => by simp [sealL, seal_]) l

theorem f_readLines (d : List UInt8) (hd : d.length ≤ 1048576) : fo 79 [A (yS d)] = some ⟨.tup [.own 9 ((linesB d).map sV), yS (restB d)], [], false⟩ := by
  have hlp := lp79 (d.length + 1) d [] (by omega) (by simp; omega)
  refine orc_79 (d.length + 1) ?_
  rw [List.nil_append] at hlp
  simp -dsimp [Tryz.f79] at hlp
  unfold linesB restB
  simp (maxSteps := 1000000) +contextual -dsimp [Tryz.f79, hlp, List.set]

theorem f_isWhole (d : List UInt8) (hd : d.length ≤ 1048576) : fo 60 [A (yS d)] = some (R (vB (eqI (restB d).length 0))) := by
  have g := f_readLines d hd
  refine orc_60 1 ?_
  simp (maxSteps := 1000000) +contextual -dsimp [Tryz.f60, g]

theorem f_l13Read (d : List UInt8) (hd : d.length ≤ 1048576) : fo 78 [A (yS d)] = some ⟨.tup [.own 9 ((linesB d).map sV), vI (d.length - (restB d).length : Nat)], [], true⟩ := by
  have hlp := lp78 d (by omega) (d.length + 1) 0 [] (by omega) (by omega) (by simp; omega)
  have hc := clean_sV (linesB d)
  refine orc_78 (d.length + 1) ?_
  rw [List.nil_append, List.drop_zero] at hlp
  simp -dsimp [Tryz.f78] at hlp
  unfold linesB restB at *
  simp (maxSteps := 1000000) +contextual -dsimp [Tryz.f78, hlp, hc, List.set]

/-! ### journals -/
structure Journal where
  sure : List UInt8
  loose : List UInt8
abbrev jT (j : Journal) : List T := [yS j.sure, yS j.loose]
structure World where
  desk : Desk
  jour : Journal
abbrev wT (w : World) : List T := [.sl 71 (w.desk.eng.procs.map (pT 99 201)), .sl 67 (w.desk.eng.insts.map xT), vI w.desk.eng.now, .sl 92 (w.desk.claims.map kT), yS w.jour.sure, yS w.jour.loose]

def wholeB (d : List UInt8) : Bool := eqI (restB d).length 0
theorem f_wholeB (d : List UInt8) (hd : d.length ≤ 1048576) : fo 60 [A (yS d)] = some (R (vB (wholeB d))) := f_isWhole d hd
def jourM (j : Journal) : Int := first2 (ci (ltI 2400 (j.sure.length + j.loose.length)) 2) (ci (orB (notB (wholeB j.sure)) (notB (wholeB j.loose))) 5)

theorem f_JournalFault (j : Journal) (h1 : j.sure.length ≤ 1048576) (h2 : j.loose.length ≤ 1048576) : fo 34 [A (.agg (jT j))] = some (R (vI (jourM j))) := by
  have g1 := f_wholeB j.sure h1
  have g2 := f_wholeB j.loose h2
  have hw : IntKind.i64.wrap ((j.sure.length : Int) + j.loose.length) = j.sure.length + j.loose.length := by rw [wrapI] <;> omega
  refine orc_34 1 ?_
  simp (maxSteps := 1000000) +contextual -dsimp [Tryz.f34, g1, g2, hw, f_ci, f_first2, jourM, List.set]

theorem rest_le : ∀ (f : Nat) (d : List UInt8), (restM f d).length ≤ d.length
  | 0, d => Nat.le_refl _
  | f + 1, d => by
    unfold restM
    split
    · have := rest_le f (d.drop (headB d + 3)); simp at this; omega
    · exact Nat.le_refl _

theorem whole_at (d : List UInt8) : eqI ((d.length - (restB d).length : Nat) : Int) d.length = wholeB d := by
  have := rest_le (d.length + 1) d
  unfold wholeB
  rw [Bool.eq_iff_iff]
  simp only [eqI, beq_iff_eq, restB] at *
  omega

theorem f_l13Fault (j : Journal) (h1 : j.sure.length ≤ 1048576) (h2 : j.loose.length ≤ 1048576) : fo 58 [A (.ipt (jT j))] = some (R (vI (jourM j))) := by
  have g1 := f_l13Read j.sure h1
  have g2 := f_l13Read j.loose h2
  have hw : IntKind.i64.wrap ((j.sure.length : Int) + j.loose.length) = j.sure.length + j.loose.length := by rw [wrapI] <;> omega
  have w1 := whole_at j.sure
  have w2 := whole_at j.loose
  unfold jourM
  generalize j.sure.length - (restB j.sure).length = n1 at *
  generalize j.loose.length - (restB j.loose).length = n2 at *
  refine orc_58 1 ?_
  have h20 : eqI (2 : Int) 0 = false := rfl
  cases q1 : ltI 2400 ((j.sure.length : Int) + j.loose.length)
  · cases q2 : wholeB j.sure
    · simp (maxSteps := 1000000) +contextual -dsimp [Tryz.f58, g1, hw, w1, q1, q2, first2, ci, eqI_self]
    · cases q3 : wholeB j.loose
      · simp (maxSteps := 1000000) +contextual -dsimp [Tryz.f58, g1, g2, hw, w1, w2, q1, q2, q3, first2, ci, eqI_self]
      · simp (maxSteps := 1000000) +contextual -dsimp [Tryz.f58, g1, g2, hw, w1, w2, q1, q2, q3, first2, ci, eqI_self]
  · simp (maxSteps := 1000000) +contextual -dsimp [Tryz.f58, hw, q1, first2, ci, h20]
end Go.TM.Lr

namespace Go.TM.Lr
open Go Go.TM Go.Proofs
abbrev wTl (w : World) : List T := [.sl 120 (w.desk.eng.procs.map (pT 162 206)), .sl 124 (w.desk.eng.insts.map xT), vI w.desk.eng.now, .sl 103 (w.desk.claims.map kT), yS w.jour.sure, yS w.jour.loose]
end Go.TM.Lr

namespace Go.TM.Lr
open Go Go.TM Go.Proofs
set_option maxRecDepth 20000
attribute [local congr] gif_cg
attribute [local simp] footOf noClash clash upsets setsHit setHits layHits layMeets setsMeet evFeet

def wJournal (x : Journal) : Nat := x.sure.length + x.loose.length
def FwJournal (x : Journal) : Prop := x.sure.length < 2 ^ 62 ∧ x.loose.length < 2 ^ 62
def wWorld (x : World) : Nat := wDesk x.desk + wJournal x.jour
def FwWorld (x : World) : Prop := FwDesk x.desk ∧ FwJournal x.jour
theorem g_szbyteS (l : List UInt8) (left : Int) (h0 : 0 ≤ left) (h1 : left ≤ 1048576) (hl : l.length < 2 ^ 62) : fo 57 [A (.sl 5 (l.map yV)), A (vI left)] = some (R (vI (subM left l.length))) := by
  have hw : IntKind.i64.wrap (left - l.length) = left - l.length := by rw [wrapI] <;> omega
  refine orc_57 1 ?_
  simp (maxSteps := 1000000) +contextual -dsimp [Tryz.f57, subM, hw]

theorem g_szJournal (x : Journal) (left : Int) (h0 : 0 ≤ left) (h1 : left ≤ 1048576) (hf : FwJournal x) : fo 30 [A (.agg (jT x)), A (vI left)] = some (R (vI (subM left (wJournal x)))) := by
  unfold FwJournal at hf
  refine orc_30 1 ?_
  have g0 := g_szbyteS x.sure (left) (by omega) (by omega) hf.1
  cases c0 : ltI (subM (left) (x.sure.length)) 0
  · obtain ⟨p0, e0⟩ := sub_f c0
    rw [e0] at g0 c0
    have g1 := g_szbyteS x.loose (left - (x.sure.length : Nat)) (by omega) (by omega) hf.2
    cases c1 : ltI (subM (left - (x.sure.length : Nat)) (x.loose.length)) 0
    · obtain ⟨p1, e1⟩ := sub_f c1
      rw [e1] at g1 c1
      have hm : subM left (wJournal x) = left - (x.sure.length : Nat) - (x.loose.length : Nat) := by
        have := subM_p (left := left) (w := wJournal x) (by simp only [wJournal]; omega)
        simp only [wJournal] at this ⊢; omega
      rw [hm]
      simp (maxSteps := 1000000) +contextual -dsimp [Tryz.f30, g0, g1, c0, c1]
    · have n1 := sub_t (by omega) c1
      have hm : subM left (wJournal x) = -1 := subM_n (by simp only [wJournal]; omega)
      rw [hm]
      simp (maxSteps := 1000000) +contextual -dsimp [Tryz.f30, g0, g1, c0, c1]
  · have n0 := sub_t (by omega) c0
    have hm : subM left (wJournal x) = -1 := subM_n (by simp only [wJournal]; omega)
    rw [hm]
    simp (maxSteps := 1000000) +contextual -dsimp [Tryz.f30, g0, c0]

theorem g_szWorld (x : World) (left : Int) (h0 : 0 ≤ left) (h1 : left ≤ 1048576) (hf : FwWorld x) : fo 14 [A (.agg (wTl x)), A (vI left)] = some (R (vI (subM left (wWorld x)))) := by
  unfold FwWorld at hf
  refine orc_14 1 ?_
  have g0 := g_szDesk x.desk (left) (by omega) (by omega) hf.1
  cases c0 : ltI (subM (left) (wDesk x.desk)) 0
  · obtain ⟨p0, e0⟩ := sub_f c0
    rw [e0] at g0 c0
    have g1 := g_szJournal x.jour (left - (wDesk x.desk : Nat)) (by omega) (by omega) hf.2
    cases c1 : ltI (subM (left - (wDesk x.desk : Nat)) (wJournal x.jour)) 0
    · obtain ⟨p1, e1⟩ := sub_f c1
      rw [e1] at g1 c1
      have hm : subM left (wWorld x) = left - (wDesk x.desk : Nat) - (wJournal x.jour : Nat) := by
        have := subM_p (left := left) (w := wWorld x) (by simp only [wWorld]; omega)
        simp only [wWorld] at this ⊢; omega
      rw [hm]
      simp (maxSteps := 1000000) +contextual -dsimp [Tryz.f14, g0, g1, c0, c1]
    · have n1 := sub_t (by omega) c1
      have hm : subM left (wWorld x) = -1 := subM_n (by simp only [wWorld]; omega)
      rw [hm]
      simp (maxSteps := 1000000) +contextual -dsimp [Tryz.f14, g0, g1, c0, c1]
  · have n0 := sub_t (by omega) c0
    have hm : subM left (wWorld x) = -1 := subM_n (by simp only [wWorld]; omega)
    rw [hm]
    simp (maxSteps := 1000000) +contextual -dsimp [Tryz.f14, g0, c0]

end Go.TM.Lr

namespace Go.TM.Lr
open Go Go.TM Go.Proofs
set_option maxRecDepth 20000
attribute [local congr] gif_cg
attribute [local simp] footOf noClash clash upsets setsHit setHits layHits layMeets setsMeet evFeet

abbrev zY : List T := [vU 0]
theorem gseal_byte (l : List UInt8) : sealEs (l.map yV) = l.map yV := sealEs_map (f := yV) (g := yV) (fun a => by simp [sealL, seal_]) l
theorem ltobyteS (all : List UInt8) (hall : all.length ≤ 1048576) : ∀ (rest : List UInt8) (i : Nat) (es : List (List T)), all.drop i = rest → es.length = all.length → (∀ j, i ≤ j → j < all.length → es[j]? = some zY) →
    evLoop E (orc E) (59 : Nat) (rest.length + 1) (loopOf Tryz.f59 0) ⟨22, [(0, .sl 5 (all.map yV)), (3, .ref 3 1 [] 0 all.length), (4, vI i)], [(3, ⟨1, 1, false, [.own 5 es]⟩)], 2⟩ =
    some (.exit 0, ⟨22, [(0, .sl 5 (all.map yV)), (3, .ref 3 1 [] 0 all.length), (4, vI (i + rest.length : Nat)), (11, vB false)], [(3, ⟨1, 1, false, [.own 5 (es.take i ++ rest.map yV)]⟩)], 2⟩)
  | [], i, es, h, hl, hz => by
    have hge : all.length ≤ i := by simpa using h
    have hlt : ltI (i : Int) (all.length : Int) = false := ltI_f (by omega)
    have ht : es.take i = es := List.take_of_length_le (by omega)
    rw [loop_eq]
    simp +contextual -dsimp [Tryz.f59, hlt, ht]
  | x :: rest, i, es, h, hl, hz => by
    obtain ⟨hi, hc, hr⟩ := drop_cons h
    have hlt : ltI (i : Int) (all.length : Int) = true := ltI_t (by omega)
    have hw : IntKind.i64.wrap ((i : Int) + 1) = ((i + 1 : Nat) : Int) := by rw [wrapI] <;> omega
    have hi2 : i < es.length := by omega
    have hz1 : es[i] = zY := by
      have := hz i (Nat.le_refl _) hi
      rw [List.getElem?_eq_getElem hi2] at this
      simpa using this
    have ih := ltobyteS all hall rest (i + 1) (es.set i (yV x)) hr (by simpa using hl) (fun j hj hj2 => by
      rw [List.getElem?_set_ne (by omega)]
      exact hz j (by omega) hj2)
    have he : i + 1 + rest.length = i + (rest.length + 1) := by omega
    have hes : (es.set i (yV x)).take (i + 1) = es.take i ++ [yV x] := by
      rw [List.take_add_one, List.take_set_of_le (Nat.le_refl _)]
      simp [hi2]
    rw [he, hes, List.append_assoc] at ih
    refine evLoop_next ?_ (by simpa only [List.length_cons, List.map_cons, List.singleton_append] using ih)
    simp (maxSteps := 1000000) +contextual -dsimp [Tryz.f59, hlt, hi, hc, hw, hz1, hl, List.set]

theorem g_tobyteS (l : List UInt8) (hl : l.length ≤ 1048576) : ∃ b, fo 59 [A (.sl 5 (l.map yV))] = some ⟨.own 5 (l.map yV), [], b⟩ := by
  have hm : (l.length : Int) ≤ (maxElems : Nat) := by unfold maxElems; omega
  have hlp := ltobyteS l hl l 0 (List.replicate l.length zY) rfl (by simp) (fun j _ hj => by simp [hj])
  refine ⟨cleanEs (l.map yV), orc_59 (l.length + 1) ?_⟩
  simp -dsimp [Tryz.f59] at hlp
  simp (maxSteps := 1000000) +contextual -dsimp [Tryz.f59, hm, hlp, List.set]

theorem g_toJournal (x : Journal) (h : wJournal x ≤ 1048576) : fo 32 [A (.agg (jT x))] = some ⟨.agg (jT x), [], false⟩ := by
  obtain ⟨b0, g0⟩ := g_tobyteS x.sure (by simp only [wJournal] at h; omega)
  have s0 := gseal_byte x.sure
  obtain ⟨b1, g1⟩ := g_tobyteS x.loose (by simp only [wJournal] at h; omega)
  have s1 := gseal_byte x.loose
  refine orc_32 1 ?_
  simp (maxSteps := 1000000) +contextual -dsimp [Tryz.f32, g0, s0, g1, s1, List.set]

theorem g_toWorld (x : World) (h : wWorld x ≤ 1048576) : fo 16 [A (.agg (wTl x))] = some ⟨.agg (wT x), [], false⟩ := by
  have g0 := g_toDesk x.desk (by simp only [wWorld] at h; omega)
  have g1 := g_toJournal x.jour (by simp only [wWorld] at h; omega)
  refine orc_16 1 ?_
  simp (maxSteps := 1000000) +contextual -dsimp [Tryz.f16, g0, g1, List.set]

end Go.TM.Lr

namespace Go.TM.Lr
open Go Go.TM Go.Proofs
set_option maxRecDepth 20000
attribute [local congr] gif_cg
attribute [local simp] footOf noClash clash upsets setsHit setHits layHits layMeets setsMeet evFeet

theorem leqbyteS (all : List UInt8) (hall : all.length ≤ 1048576) : ∀ (rest : List UInt8) (i : Nat), all.drop i = rest →
    evLoop E (orc E) (61 : Nat) (rest.length + 1) (loopOf Tryz.f61 0) ⟨26, [(0, .sl 5 (all.map yV)), (1, .sl 5 (all.map yV)), (5, vI i)], [], 2⟩ =
    some (.exit 0, ⟨26, [(0, .sl 5 (all.map yV)), (1, .sl 5 (all.map yV)), (5, vI (i + rest.length : Nat)), (14, vB false)], [], 2⟩)
  | [], i, h => by
    have hge : all.length ≤ i := by simpa using h
    have hlt : ltI (i : Int) (all.length : Int) = false := ltI_f (by omega)
    rw [loop_eq]
    simp +contextual -dsimp [Tryz.f61, hlt]
  | x :: rest, i, h => by
    obtain ⟨hi, hc, hr⟩ := drop_cons h
    have hlt : ltI (i : Int) (all.length : Int) = true := ltI_t (by omega)
    have hw : IntKind.i64.wrap ((i : Int) + 1) = ((i + 1 : Nat) : Int) := by rw [wrapI] <;> omega
    have ih := leqbyteS all hall rest (i + 1) hr
    have he : i + 1 + rest.length = i + (rest.length + 1) := by omega
    rw [he] at ih
    refine evLoop_next ?_ (by simpa only [List.length_cons] using ih)
    simp (maxSteps := 1000000) +contextual -dsimp [Tryz.f61, hlt, hi, hc, hw, eqI_self]

theorem g_eqbyteS (l : List UInt8) (hl : l.length ≤ 1048576) : fo 61 [A (.sl 5 (l.map yV)), A (.sl 5 (l.map yV))] = some (R (vB true)) := by
  have hlp := leqbyteS l hl l 0 rfl
  refine orc_61 (l.length + 1) ?_
  simp -dsimp [Tryz.f61] at hlp
  simp (maxSteps := 1000000) +contextual -dsimp [Tryz.f61, hlp, eqI_self]

theorem g_eqJournal (x : Journal) (h : wJournal x ≤ 1048576) : fo 35 [A (.agg (jT x)), A (.agg (jT x))] = some (R (vB true)) := by
  have g0 := g_eqbyteS x.sure (by simp only [wJournal] at h; omega)
  have g1 := g_eqbyteS x.loose (by simp only [wJournal] at h; omega)
  refine orc_35 1 ?_
  simp (maxSteps := 1000000) +contextual -dsimp [Tryz.f35, g0, g1]

theorem g_eqWorld (x : World) (h : wWorld x ≤ 1048576) : fo 18 [A (.agg (wT x)), A (.agg (wT x))] = some (R (vB true)) := by
  have g0 := g_eqDesk x.desk (by simp only [wWorld] at h; omega)
  have g1 := g_eqJournal x.jour (by simp only [wWorld] at h; omega)
  refine orc_18 1 ?_
  simp (maxSteps := 1000000) +contextual -dsimp [Tryz.f18, g0, g1]

end Go.TM.Lr

namespace Go.TM.Lr
open Go Go.TM Go.Proofs
set_option maxRecDepth 20000
attribute [local congr] gif_cg
attribute [local simp] footOf noClash clash upsets setsHit setHits layHits layMeets setsMeet evFeet

set_option maxHeartbeats 4000000 in
theorem lp21t (d : Desk) (tl : List T) (hf : FitE d.eng) (h0 : engM d.eng = 0) (hcl : d.claims.length ≤ 60) : ∀ (rest : List Claim) (i : Nat), d.claims.drop i = rest →
    evLoop E (orc E) (21 : Nat) (rest.length + 1) (loopOf Tryz.f21 0) ⟨76, [(0, .ipt (.sl 71 (d.eng.procs.map (pT 99 201)) :: .sl 67 (d.eng.insts.map xT) :: vI d.eng.now :: .sl 92 (d.claims.map kT) :: tl)), (4, vI i)], [], 2⟩ =
    (if eqI (claimsM d i rest) 0 = true then some (.exit 0, ⟨76, [(0, .ipt (.sl 71 (d.eng.procs.map (pT 99 201)) :: .sl 67 (d.eng.insts.map xT) :: vI d.eng.now :: .sl 92 (d.claims.map kT) :: tl)), (4, vI (i + rest.length : Nat)), (25, vB false)], [], 2⟩)
     else some (.ret, ⟨76, [(2, vI (claimsM d i rest))], [], 2⟩))
  | [], i, h => by
    have hge : d.claims.length ≤ i := by simpa using h
    have hlt : ltI (i : Int) (d.claims.length : Int) = false := ltI_f (by omega)
    rw [loop_eq]
    simp +contextual -dsimp [Tryz.f21, hlt, claimsM, eqI_self]
  | x :: rest, i, h => by
    obtain ⟨hi, hc, hr⟩ := drop_cons h
    obtain ⟨n1, n2, n3⟩ := engM_zero h0
    have hlt : ltI (i : Int) (d.claims.length : Int) = true := ltI_t (by omega)
    have hw : IntKind.i64.wrap ((i : Int) + 1) = ((i + 1 : Nat) : Int) := by rw [wrapI] <;> omega
    have hwi : IntKind.i64.wrap ((d.eng.insts.length : Int) - 1) = (d.eng.insts.length : Int) - 1 := by rw [wrapI] <;> omega
    have he : i + 1 + rest.length = i + (rest.length + 1) := by omega
    have out : ∀ k : Int, claimM d i x = k → eqI k 0 = false → claimsM d i (x :: rest) = k := fun k h1 h2 => by simp [claimsM, h1, h2]
    cases q1 : inR x.inst 0 ((d.eng.insts.length : Int) - 1)
    · have h3 : claimM d i x = 3 := by simp [claimM, q1, notB, orB]
      have hm := out 3 h3 rfl
      have h30 : eqI (3 : Int) 0 = false := rfl
      rw [hm, h30, if_neg (by simp)]
      refine evLoop_out ?_ (by simp)
      simp (maxSteps := 1000000) +contextual -dsimp [Tryz.f21, hlt, hi, hc, hwi, f_l1In, q1, List.set]
    cases q2 : inR x.user 1 9
    · have h3 : claimM d i x = 3 := by simp [claimM, q1, q2, notB, orB]
      have hm := out 3 h3 rfl
      have h30 : eqI (3 : Int) 0 = false := rfl
      rw [hm, h30, if_neg (by simp)]
      refine evLoop_out ?_ (by simp)
      simp (maxSteps := 1000000) +contextual -dsimp [Tryz.f21, hlt, hi, hc, hwi, f_l1In, f_l12User, q1, q2, List.set]
    obtain ⟨b, hb, hbl⟩ : ∃ b : Nat, x.inst = b ∧ b < d.eng.insts.length := by
      simp [inR, andB, leI] at q1
      obtain ⟨k, hk⟩ := Int.eq_ofNat_of_zero_le q1.1
      exact ⟨k, hk, by omega⟩
    obtain ⟨a, ha, hx, e2, ok, hlen⟩ := (n3 (d.eng.insts[b]) (List.getElem_mem _)).at_
    have g1 := f_l12Open d.eng (.sl 92 (d.claims.map kT) :: tl) b hbl a hx ha (by have := ok.le; omega) hlen x.step
    rw [← hb] at g1
    have g2 := f_l12Ahead (clAt d.claims (i - 1)) x
    cases q3 : isOpenM d.eng x.inst x.step
    · have h3 : claimM d i x = 4 := by simp [claimM, q1, q2, q3, notB, orB]
      have hm := out 4 h3 rfl
      have h30 : eqI (4 : Int) 0 = false := rfl
      rw [hm, h30, if_neg (by simp)]
      refine evLoop_out ?_ (by simp)
      simp (maxSteps := 1000000) +contextual -dsimp [Tryz.f21, hlt, hi, hc, hwi, f_l1In, f_l12User, g1, q1, q2, q3, List.set]
    rcases Nat.eq_zero_or_pos i with hi0 | hi0
    · have hl0 : ltI 0 (i : Int) = false := ltI_f (by omega)
      have h3 : claimM d i x = 0 := by simp [claimM, q1, q2, q3, hl0, notB, orB, andB]
      have ih := lp21t d tl hf h0 hcl rest (i + 1) hr
      rw [he] at ih
      have hm : claimsM d i (x :: rest) = claimsM d (i + 1) rest := by simp [claimsM, h3, eqI_self]
      rw [hm]
      refine evLoop_next ?_ (by simpa only [List.length_cons] using ih)
      simp (maxSteps := 1000000) +contextual -dsimp [Tryz.f21, hlt, hi, hc, hw, hwi, f_l1In, f_l12User, g1, q1, q2, q3, hl0, List.set]
    · have hl0 : ltI 0 (i : Int) = true := ltI_t (by omega)
      have hi1 : i - 1 < d.claims.length := by omega
      have hw1 : IntKind.i64.wrap ((i : Int) - 1) = ((i - 1 : Nat) : Int) := by rw [wrapI] <;> omega
      have hcl1 : clAt d.claims (i - 1) = d.claims[i - 1] := by simp [clAt, hi1]
      rw [hcl1] at g2
      cases q4 : aheadM (d.claims[i - 1]) x
      · have h3 : claimM d i x = 1 := by simp [claimM, q1, q2, q3, hl0, hcl1, ahead_cmp, q4, notB, orB, andB]
        have hm := out 1 h3 rfl
        have h30 : eqI (1 : Int) 0 = false := rfl
        rw [hm, h30, if_neg (by simp)]
        refine evLoop_out ?_ (by simp)
        simp (maxSteps := 1000000) +contextual -dsimp [Tryz.f21, hlt, hi, hc, hwi, f_l1In, f_l12User, g1, g2, q1, q2, q3, q4, hl0, hi1, hw1, List.set]
      · have h3 : claimM d i x = 0 := by simp [claimM, q1, q2, q3, hl0, hcl1, ahead_cmp, q4, notB, orB, andB]
        have ih := lp21t d tl hf h0 hcl rest (i + 1) hr
        rw [he] at ih
        have hm : claimsM d i (x :: rest) = claimsM d (i + 1) rest := by simp [claimsM, h3, eqI_self]
        rw [hm]
        refine evLoop_next ?_ (by simpa only [List.length_cons] using ih)
        simp (maxSteps := 1000000) +contextual -dsimp [Tryz.f21, hlt, hi, hc, hw, hwi, f_l1In, f_l12User, g1, g2, q1, q2, q3, q4, hl0, hi1, hw1, List.set]

theorem f_l12FaultT (d : Desk) (tl : List T) (hf : FitE d.eng) (hc : d.claims.length < 2 ^ 62) : fo 21 [A (.ipt (.sl 71 (d.eng.procs.map (pT 99 201)) :: .sl 67 (d.eng.insts.map xT) :: vI d.eng.now :: .sl 92 (d.claims.map kT) :: tl))] = some (R (vI (deskM d))) := by
  have g1 := f_l11Fault d.eng (.sl 92 (d.claims.map kT) :: tl) hf
  rw [eng_same] at g1
  unfold deskM deskA
  refine orc_21 (d.claims.length + 1) ?_
  cases q1 : eqI (engM d.eng) 0
  · simp (maxSteps := 1000000) +contextual -dsimp [Tryz.f21, g1, q1, first2]
  · have e0 : engM d.eng = 0 := by simpa [eqI] using q1
    cases q2 : ltI 60 d.claims.length
    · have hlp := lp21t d tl hf e0 (by simp [ltI] at q2; omega) d.claims 0 rfl
      simp -dsimp [Tryz.f21] at hlp
      cases q4 : eqI (claimsM d 0 d.claims) 0
      · rw [q4] at hlp
        simp (maxSteps := 1000000) +contextual -dsimp [Tryz.f21, g1, e0, q2, eqI_self, first2, ci, hlp]
      · rw [q4] at hlp
        have e1 : claimsM d 0 d.claims = 0 := by simpa [eqI] using q4
        simp (maxSteps := 1000000) +contextual -dsimp [Tryz.f21, g1, e0, q2, e1, eqI_self, first2, ci, hlp]
    · have h20 : eqI (2 : Int) 0 = false := rfl
      simp (maxSteps := 1000000) +contextual -dsimp [Tryz.f21, g1, e0, q2, eqI_self, first2, ci, h20]

def worldM (w : World) : Int := first2 (deskM w.desk) (jourM w.jour)

theorem f4_World (w : World) (hf : FitE w.desk.eng) (hc : w.desk.claims.length < 2 ^ 62) (h1 : w.jour.sure.length ≤ 1048576) (h2 : w.jour.loose.length ≤ 1048576) : fo 31 [A (.ipt (wT w))] = some (R (vI (worldM w))) := by
  have g1 := f_l12FaultT w.desk [yS w.jour.sure, yS w.jour.loose] hf hc
  have g2 := f_l13Fault w.jour h1 h2
  unfold worldM first2
  refine orc_31 1 ?_
  cases q : eqI (deskM w.desk) 0
  · simp (maxSteps := 1000000) +contextual -dsimp [Tryz.f31, g1, q]
  · simp (maxSteps := 1000000) +contextual -dsimp [Tryz.f31, g1, g2, q]

theorem f4_WorldFault (w : World) (hf : FitE w.desk.eng) (hc : w.desk.claims.length < 2 ^ 62) (h1 : w.jour.sure.length ≤ 1048576) (h2 : w.jour.loose.length ≤ 1048576) : fo 15 [A (.agg (wT w))] = some (R (vI (worldM w))) := by
  have g1 := f4_World w hf hc h1 h2
  refine orc_15 1 ?_
  simp (maxSteps := 1000000) +contextual -dsimp [Tryz.f15, g1]

theorem f_WorldFault (w : World) (hf : FitE w.desk.eng) (hc : w.desk.claims.length < 2 ^ 62) (h1 : w.jour.sure.length ≤ 1048576) (h2 : w.jour.loose.length ≤ 1048576) : fo 17 [A (.agg (wT w))] = some (R (vI (worldM w))) := by
  have g1 := f_DeskFault w.desk hf hc
  have g2 := f_JournalFault w.jour h1 h2
  refine orc_17 1 ?_
  simp (maxSteps := 1000000) +contextual -dsimp [Tryz.f17, g1, g2, f_first2, worldM, List.set]

structure FitW (w : World) : Prop where
  desk : FitD w.desk
  sure : w.jour.sure.length < 2 ^ 62
  loose : w.jour.loose.length < 2 ^ 62

set_option maxHeartbeats 8000000 in
theorem f_LawWorld (w : World) (hf : FitW w) : fo 5 [A (.agg (wTl w))] = some (R (vB true)) := by
  have g6 := g_szWorld w 1048576 (by omega) (by omega) ⟨fw_desk hf.desk, hf.sure, hf.loose⟩
  refine orc_5 1 ?_
  cases c1 : ltI (subM 1048576 (wWorld w)) 0
  · obtain ⟨p, e⟩ := sub_f c1
    rw [e] at g6 c1
    have hw : wWorld w ≤ 1048576 := by omega
    have hj : w.jour.sure.length ≤ 1048576 ∧ w.jour.loose.length ≤ 1048576 := by simp only [wWorld, wJournal] at hw; omega
    have g8 := g_toWorld w hw
    have g7 := f4_WorldFault w hf.desk.eng hf.desk.claims hj.1 hj.2
    have g9 := f_WorldFault w hf.desk.eng hf.desk.claims hj.1 hj.2
    have g10 := g_eqWorld w hw
    simp (maxSteps := 1000000) +contextual -dsimp [Tryz.f5, g6, g7, g8, g9, g10, eqI_self, c1, List.set]
  · simp (maxSteps := 1000000) +contextual -dsimp [Tryz.f5, g6, c1]
end Go.TM.Lr

namespace Go.TM.Lr
open Go Go.TM Go.Proofs
set_option maxRecDepth 20000

theorem world_plain : plainT (szOf Lr.E) Tryz.prog 10 49 = true := by kernel_rfl

theorem tree_bytes {n : Nat} {ts : List T} (h : TreeT Tryz.prog (n + 2) 45 ts) : ∃ l : List UInt8, ts = [yS l] ∧ l.length < 2 ^ 62 := by
  obtain ⟨l, rfl, hl, _⟩ := tree_slice (f := yV) (p := fun _ => True) Tryz.underlying45 h fun c hc => by
    unfold TreeT at hc
    rw [Tryz.underlying5] at hc
    obtain ⟨x, rfl, hw⟩ := hc
    have hb := bounds_u8 hw
    refine ⟨UInt8.ofNat x.toNat, ?_, trivial⟩
    have e : ((UInt8.ofNat x.toNat).toNat : Int) = x := by rw [UInt8.toNat_ofNat']; omega
    simp only [yV, vU, e]
  exact ⟨l, rfl, hl⟩

theorem tree_deskN {n : Nat} {ts : List T} (h : TreeT Tryz.prog (n + 9) 28 ts) : ∃ d : Desk, ts = dTl d ∧ FitD d := by
  unfold TreeT at h
  rw [Tryz.underlying28] at h
  obtain ⟨c1, r1, rfl, h1, c2, r2, rfl, h2, rfl⟩ := h
  obtain ⟨x1, rfl, f1⟩ := tree_engine h1
  obtain ⟨x2, rfl, l2, _⟩ := tree_slice (f := kT) (p := fun _ => True) Tryz.underlying26 h2 fun c hc => tree_claim hc
  exact ⟨⟨x1, x2⟩, rfl, f1, l2⟩

theorem tree_world {ts : List T} (h : TreeT Tryz.prog 10 49 ts) : ∃ w : World, ts = wTl w ∧ FitW w := by
  unfold TreeT at h
  rw [Tryz.underlying49] at h
  obtain ⟨c1, r1, rfl, h1, c2, r2, rfl, h2, rfl⟩ := h
  obtain ⟨x1, rfl, f1⟩ := tree_deskN (n := 0) h1
  simp only at h2
  unfold TreeT at h2
  rw [Tryz.underlying47] at h2
  obtain ⟨c3, r3, rfl, h3, c4, r4, rfl, h4, rfl⟩ := h2
  obtain ⟨x3, rfl, l3⟩ := tree_bytes h3
  obtain ⟨x4, rfl, l4⟩ := tree_bytes h4
  exact ⟨⟨x1, ⟨x3, x4⟩⟩, rfl, f1, l3, l4⟩

end Go.TM.Lr
