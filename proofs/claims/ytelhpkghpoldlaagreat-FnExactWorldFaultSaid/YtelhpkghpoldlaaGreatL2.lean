import Derived.Test.YtelhpkghpoldlaaGreatL1

namespace Go.TM.Lr
open Go Go.TM Go.Proofs
set_option maxRecDepth 20000
attribute [local congr] gif_cg
attribute [local simp] footOf noClash clash upsets setsHit setHits layHits layMeets setsMeet evFeet

def deepM (l : List Step) : Nat → Int → Int
  | 0, _ => 0
  | f + 1, at_ => if leI 0 at_ = true then 1 + deepM l f (parOf l at_.toNat) else 0

theorem loop35 (l : List Step) (i : Nat) (ha : Ahead l i) : ∀ (f : Nat) (at_ n : Int), -1 ≤ at_ → at_ < f → at_ < i → at_ < l.length → 0 ≤ n → n + at_ < 49 →
    evLoop E (orc E) (121 : Nat) (f + 1) (loopOf Tryz.f121 0) ⟨20, [(0, .sl 99 (l.map (sT 201))), (1, vI at_), (5, vI n)], [], 2⟩ =
    some (.exit 0, ⟨20, [(0, .sl 99 (l.map (sT 201))), (1, vI (-1)), (5, vI (n + deepM l (f + 1) at_)), (11, vB false)], [], 2⟩)
  | 0, at_, n, h1, h2, h3, h4, h5, h6 => by
    have e : at_ = -1 := by omega
    subst e
    have hle : leI 0 (-1) = false := rfl
    rw [loop_eq]
    simp +contextual -dsimp [Tryz.f121, hle, deepM]
  | f + 1, at_, n, h1, h2, h3, h4, h5, h6 => by
    cases hle : leI 0 at_
    · have e : at_ = -1 := by simp [leI] at hle; omega
      subst e
      rw [loop_eq]
      simp +contextual -dsimp [Tryz.f121, hle, deepM]
    · obtain ⟨k, rfl⟩ := Int.eq_ofNat_of_zero_le (show 0 ≤ at_ by simpa [leI] using hle)
      have hk : k < l.length := by omega
      have hpk : (l[k]).parent = parOf l k := by simp [parOf, hk]
      obtain ⟨q1, q2⟩ := ha k hk (by omega)
      rw [hpk] at q1 q2
      have hlt : ltI n 50 = true := ltI_t (by omega)
      have hw : IntKind.i64.wrap (n + 1) = n + 1 := by rw [wrapI] <;> omega
      have ih := loop35 l i ha f (parOf l k) (n + 1) q1 (by omega) (by omega) (by omega) (by omega) (by omega)
      have hm : n + deepM l (f + 1 + 1) k = n + 1 + deepM l (f + 1) (parOf l k) := by
        rw [show deepM l (f + 1 + 1) (k : Int) = 1 + deepM l (f + 1) (parOf l k) from by rw [deepM, if_pos hle]; simp]
        omega
      rw [hm]
      refine evLoop_next ?_ ih
      simp (maxSteps := 1000000) +contextual -dsimp [Tryz.f121, hle, hlt, hk, hpk, hw]

theorem f_l4Deep (l : List Step) (hl : l.length ≤ 24) (i : Nat) (hi : i < l.length) (ha : Ahead l (i + 1)) : fo 121 [A (.sl 99 (l.map (sT 201))), A (vI i)] = some (R (vI (deepM l (i + 2) i))) := by
  have hlp := loop35 l (i + 1) ha (i + 1) (i : Int) 0 (by omega) (by omega) (by omega) (by omega) (by omega) (by omega)
  refine orc_121 (i + 2) ?_
  simp -dsimp [Tryz.f121] at hlp
  simp (maxSteps := 1000000) +contextual -dsimp [Tryz.f121, hlp]

/-! ### l4Needs -/
def needsM (l : List Step) (at_ : Nat) : Bool :=
  if orB (ltI (parOf l at_) 0) (notB (eqI (kindOf l (parOf l at_)) 3)) = true then false
  else notB (eqI (szAt (kids4M (parOf l at_) 0 l) ((kids4M (parOf l at_) 0 l).length - 1)) at_)

theorem kids4_mem {p : Int} : ∀ {l : List Step} {i k : Nat} {s : Step}, l[k]? = some s → s.parent = p → ((i + k : Nat) : Int) ∈ kids4M p i l
  | [], i, k, s, h, _ => by simp at h
  | x :: l, i, 0, s, h, hp => by
    simp at h; subst h
    simp [kids4M, eqI, hp]
  | x :: l, i, k + 1, s, h, hp => by
    have := kids4_mem (i := i + 1) (k := k) (by simpa using h) hp
    have e : i + 1 + k = i + (k + 1) := by omega
    rw [e] at this
    unfold kids4M
    split
    · exact List.mem_cons_of_mem _ this
    · exact this

theorem f_l4Needs (l : List Step) (hl : l.length ≤ 1000) (at_ : Nat) (ha : at_ < l.length) (hp : parOf l at_ < l.length) :
    fo 126 [A (.sl 99 (l.map (sT 201))), A (vI at_)] = some (R (vB (needsM l at_))) := by
  have hpar : (l[at_]).parent = parOf l at_ := by simp [parOf, ha]
  refine orc_126 1 ?_
  cases c1 : ltI (parOf l at_) 0
  · have p1 : 0 ≤ parOf l at_ := by simp [ltI] at c1; omega
    obtain ⟨k, hk⟩ := Int.eq_ofNat_of_zero_le p1
    have hk2 : k < l.length := by omega
    have hkind : (l[k]).kind = kindOf l (k : Int) := by simp [kindOf, hk2]
    rw [hk] at hpar c1
    cases c2 : eqI (kindOf l (k : Int)) 3
    · simp (maxSteps := 1000000) +contextual -dsimp [Tryz.f126, ha, hpar, hk, hk2, hkind, c1, c2, needsM]
    · have g := f_l4Kids l hl (k : Int)
      have hm : ((0 + at_ : Nat) : Int) ∈ kids4M (k : Int) 0 l := kids4_mem (k := at_) (s := l[at_]) (by simp [ha]) hpar
      have hpos : 0 < (kids4M (k : Int) 0 l).length := List.length_pos_of_mem hm
      have hkl : (kids4M (k : Int) 0 l).length ≤ 1000 := by
        have : ∀ (l : List Step) (i : Nat), (kids4M (k : Int) i l).length ≤ l.length := fun l => by
          induction l with
          | nil => intro i; simp [kids4M]
          | cons s l ih => intro i; unfold kids4M; split <;> simp <;> have := ih (i + 1) <;> omega
        have := this l 0; omega
      have hw : IntKind.i64.wrap (((kids4M (k : Int) 0 l).length : Int) - 1) = (((kids4M (k : Int) 0 l).length - 1 : Nat) : Int) := by rw [wrapI] <;> omega
      have hlt : (kids4M (k : Int) 0 l).length - 1 < (kids4M (k : Int) 0 l).length := by omega
      have e1 : szAt (kids4M (k : Int) 0 l) (((kids4M (k : Int) 0 l).length : Int) - 1) = (kids4M (k : Int) 0 l)[(kids4M (k : Int) 0 l).length - 1] := by
        have : (((kids4M (k : Int) 0 l).length : Int) - 1).toNat = (kids4M (k : Int) 0 l).length - 1 := by omega
        simp [szAt, this, hlt]
      have hse : sealEs (iE (kids4M (k : Int) 0 l)) = iE (kids4M (k : Int) 0 l) := sealEs_map (f := fun n => [vI n]) (g := fun n => [vI n]) (fun a => by simp [sealL, seal_]) _
      simp (maxSteps := 1000000) +contextual -dsimp [Tryz.f126, ha, hpar, hk, hk2, hkind, c1, c2, g, hse, hw, hlt, e1, needsM]
  · simp (maxSteps := 1000000) +contextual -dsimp [Tryz.f126, ha, hpar, c1, needsM]
end Go.TM.Lr

namespace Go.TM.Lr
open Go Go.TM Go.Proofs
set_option maxRecDepth 20000
attribute [local congr] gif_cg
attribute [local simp] footOf noClash clash upsets setsHit setHits layHits layMeets setsMeet evFeet

/-- The steps, one by one; the code of the first fault, and the parents till there. -/
def procA : List Step → List Int → List Int → Int × List Int × List Int
  | [], list, deep => (0, list, deep)
  | s :: r, list, deep =>
    if notB (eqI (stepM s list deep) 0) = true then (stepM s list deep, (nextM list deep s.parent).2.1, (nextM list deep s.parent).2.2)
    else procA r (nextM list deep s.parent).2.1 (nextM list deep s.parent).2.2

structure FitS (s : Step) : Prop where
  p1 : -9223372036854775808 ≤ s.parent
  p2 : s.parent < 9223372036854775808
  name : s.name.size < 2 ^ 62
  cond : s.cond.length < 2 ^ 62
  expr : s.expr.length < 2 ^ 62

theorem step_next {s : Step} {list deep : List Int} (h : stepM s list deep = 0) (ht : Tree list) (hd : deep.length = list.length) (hv : ∀ d, d ∈ deep → 0 ≤ d ∧ d ≤ list.length) :
    nextM list deep s.parent = (0, list ++ [s.parent], deep ++ [nextDeep deep s.parent]) ∧ Tree (list ++ [s.parent]) ∧ -1 ≤ s.parent ∧ s.parent < list.length ∧
      (∀ d, d ∈ deep ++ [nextDeep deep s.parent] → 0 ≤ d ∧ d ≤ (list ++ [s.parent]).length) := by
  have hz : stepA s list deep = 0 := by
    unfold stepM at h
    split at h
    · rename_i c; rw [h] at c; simp [notB, eqI] at c
    · rename_i c; simpa [notB, eqI] using c
  have h1 := (first2_zero hz).2
  have hnx : nextM list deep s.parent = (0, list ++ [s.parent], deep ++ [nextDeep deep s.parent]) ∧ nextBad list s.parent = false := by
    unfold nextM at h1 ⊢
    split at h1
    · simp at h1
    · rename_i d1
      rw [if_neg d1]
      split at h1
      · simp at h1
      · rename_i d2
        rw [if_neg d2]
        exact ⟨rfl, by simpa using d1⟩
  obtain ⟨hnx, c1⟩ := hnx
  have hpr : -1 ≤ s.parent ∧ s.parent < list.length := by
    simp only [nextBad, orB, andB, notB, eqI, ltI, inR, leI, Bool.or_eq_false_iff, Bool.and_eq_false_iff, Bool.not_eq_false', beq_eq_false_iff_ne, beq_iff_eq, decide_eq_false_iff_not, decide_eq_true_eq, Bool.and_eq_true] at c1
    omega
  refine ⟨hnx, fun k hk => ?_, hpr.1, hpr.2, fun d hdm => ?_⟩
  · rcases Nat.lt_or_ge k list.length with h' | h'
    · rw [List.getElem_append_left h']; exact ht k h'
    · have : k = list.length := by simp at hk; omega
      subst this
      simp
      exact hpr
  · simp only [List.length_append, List.length_cons, List.length_nil]
    rcases List.mem_append.1 hdm with hdm | hdm
    · have := hv d hdm; omega
    · simp only [List.mem_singleton] at hdm
      subst hdm
      unfold nextDeep
      split
      · rename_i hp
        obtain ⟨k, hk⟩ := Int.eq_ofNat_of_zero_le (show 0 ≤ s.parent by simpa [leI] using hp)
        have hk2 : k < deep.length := by omega
        rw [hk]
        simp [hk2]
        have := hv deep[k] (List.getElem_mem hk2)
        omega
      · omega

theorem loop19a (all : List Step) (hall : all.length ≤ 24) (hf : ∀ s, s ∈ all → FitS s) : ∀ (rest : List Step) (i : Nat) (list deep : List Int), all.drop i = rest → Tree list → list.length = i → deep.length = list.length → (∀ d, d ∈ deep → 0 ≤ d ∧ d ≤ list.length) →
    evLoop E (orc E) (87 : Nat) (rest.length + 1) (loopOf Tryz.f87 0) ⟨61, [(0, .sl 99 (all.map (sT 201))), (3, .ptr 17 1 [] 0), (18, .sl 99 (all.map (sT 201))), (19, vI all.length), (20, vI i)], [(17, pR 1 1 list deep)], 2⟩ =
    (if eqI (procA rest list deep).1 0 = true then some (.exit 0, ⟨61, [(0, .sl 99 (all.map (sT 201))), (3, .ptr 17 1 [] 0), (18, .sl 99 (all.map (sT 201))), (19, vI all.length), (20, vI (i + rest.length : Nat)), (21, vB false)], [(17, pR 1 1 (procA rest list deep).2.1 (procA rest list deep).2.2)], 2⟩)
     else some (.ret, ⟨61, [(2, vI (procA rest list deep).1)], [], 2⟩))
  | [], i, list, deep, h, ht, hl, hd, hv => by
    have hge : all.length ≤ i := by simpa using h
    have hlt : ltI (i : Int) (all.length : Int) = false := ltI_f (by omega)
    rw [loop_eq]
    simp +contextual -dsimp [Tryz.f87, hlt, procA, eqI_self]
  | s :: rest, i, list, deep, h, ht, hl, hd, hv => by
    obtain ⟨hi, hc, hr⟩ := drop_cons h
    have hlt : ltI (i : Int) (all.length : Int) = true := ltI_t (by omega)
    have hw : IntKind.i64.wrap ((i : Int) + 1) = ((i + 1 : Nat) : Int) := by rw [wrapI] <;> omega
    have he : i + 1 + rest.length = i + (rest.length + 1) := by omega
    have hs := hf s (by rw [← hc]; exact List.getElem_mem hi)
    have g := f_stepFault s list deep hs.p1 hs.p2 ht (by omega) hd (fun d hdm => by have := hv d hdm; omega) hs.name hs.expr
    cases c : eqI (stepM s list deep) 0
    · have hm : (procA (s :: rest) list deep).1 = stepM s list deep := by simp [procA, c, notB]
      rw [hm, c, if_neg (by simp)]
      refine evLoop_out ?_ (by simp)
      simp (maxSteps := 1000000) +contextual -dsimp [Tryz.f87, hlt, hi, hc, g, c, List.set]
    · obtain ⟨n1, n2, n3, n4, n5⟩ := step_next (by simpa [eqI] using c) ht hd hv
      have ih := loop19a all hall hf rest (i + 1) (list ++ [s.parent]) (deep ++ [nextDeep deep s.parent]) hr n2 (by simp; omega) (by simp; omega) n5
      rw [he] at ih
      have hm : procA (s :: rest) list deep = procA rest (list ++ [s.parent]) (deep ++ [nextDeep deep s.parent]) := by simp [procA, c, notB, n1]
      rw [hm]
      rw [n1] at g
      refine evLoop_next ?_ (by simpa only [List.length_cons] using ih)
      simp (maxSteps := 1000000) +contextual -dsimp [Tryz.f87, hlt, hi, hc, hw, g, c, List.set]
end Go.TM.Lr

namespace Go.TM.Lr
open Go Go.TM Go.Proofs
set_option maxRecDepth 20000
attribute [local congr] gif_cg
attribute [local simp] footOf noClash clash upsets setsHit setHits layHits layMeets setsMeet evFeet

def procB (l : List Step) : Nat → Nat → Int
  | 0, _ => 0
  | f + 1, i => if notB (eqI (condFaultM l i) 0) = true then condFaultM l i else procB l f (i + 1)

theorem loop19b (l : List Step) (hl : l.length ≤ 24) (hp : ∀ k, 0 < k → k < l.length → 0 ≤ parOf l k ∧ parOf l k < l.length) (hc : ∀ k, (condOf l k).length < 2 ^ 62) : ∀ (f i : Nat), i + f = l.length →
    evLoop E (orc E) (87 : Nat) (f + 1) (loopOf Tryz.f87 1) ⟨61, [(0, .sl 99 (l.map (sT 201))), (32, vI l.length), (33, vI i)], [], 2⟩ =
    (if eqI (procB l f i) 0 = true then some (.exit 2, ⟨61, [(0, .sl 99 (l.map (sT 201))), (32, vI l.length), (33, vI l.length), (34, vB false)], [], 2⟩)
     else some (.ret, ⟨61, [(2, vI (procB l f i))], [], 2⟩))
  | 0, i, h => by
    have e : i = l.length := by omega
    subst e
    have hlt : ltI (l.length : Int) (l.length : Int) = false := ltI_f (by omega)
    rw [loop_eq]
    simp +contextual -dsimp [Tryz.f87, hlt, procB, eqI_self]
  | f + 1, i, h => by
    have hi : i < l.length := by omega
    have hlt : ltI (i : Int) (l.length : Int) = true := ltI_t (by omega)
    have hw : IntKind.i64.wrap ((i : Int) + 1) = ((i + 1 : Nat) : Int) := by rw [wrapI] <;> omega
    have g := f_condFault l (by omega) i hi (fun h0 => hp i h0 hi) (hc i)
    cases c : eqI (condFaultM l i) 0
    · have hm : procB l (f + 1) i = condFaultM l i := by simp [procB, c, notB]
      rw [hm, c, if_neg (by simp)]
      refine evLoop_out ?_ (by simp)
      simp (maxSteps := 1000000) +contextual -dsimp [Tryz.f87, hlt, g, c]
    · have ih := loop19b l hl hp hc f (i + 1) (by omega)
      have hm : procB l (f + 1) i = procB l f (i + 1) := by simp [procB, c, notB]
      rw [hm]
      refine evLoop_next ?_ ih
      simp (maxSteps := 1000000) +contextual -dsimp [Tryz.f87, hlt, hw, g, c]

def procC : List Step → Int
  | [] => 0
  | s :: r => if notB (eqI (first2 (typeFaultM s.cond 2) (typeFaultM s.expr 1)) 0) = true then first2 (typeFaultM s.cond 2) (typeFaultM s.expr 1) else procC r

theorem loop19c (all : List Step) (hall : all.length ≤ 24) (hf : ∀ s, s ∈ all → FitS s) : ∀ (rest : List Step) (i : Nat), all.drop i = rest →
    evLoop E (orc E) (87 : Nat) (rest.length + 1) (loopOf Tryz.f87 2) ⟨61, [(43, .sl 99 (all.map (sT 201))), (44, vI all.length), (45, vI i)], [], 2⟩ =
    (if eqI (procC rest) 0 = true then some (.exit 4, ⟨61, [(43, .sl 99 (all.map (sT 201))), (44, vI all.length), (45, vI (i + rest.length : Nat)), (46, vB false)], [], 2⟩)
     else some (.ret, ⟨61, [(2, vI (procC rest))], [], 2⟩))
  | [], i, h => by
    have hge : all.length ≤ i := by simpa using h
    have hlt : ltI (i : Int) (all.length : Int) = false := ltI_f (by omega)
    rw [loop_eq]
    simp +contextual -dsimp [Tryz.f87, hlt, procC, eqI_self]
  | s :: rest, i, h => by
    obtain ⟨hi, hc, hr⟩ := drop_cons h
    have hlt : ltI (i : Int) (all.length : Int) = true := ltI_t (by omega)
    have hw : IntKind.i64.wrap ((i : Int) + 1) = ((i + 1 : Nat) : Int) := by rw [wrapI] <;> omega
    have he : i + 1 + rest.length = i + (rest.length + 1) := by omega
    have hs := hf s (by rw [← hc]; exact List.getElem_mem hi)
    have g1 := f_typeFault s.cond hs.cond 2
    have g2 := f_typeFault s.expr hs.expr 1
    cases c : eqI (first2 (typeFaultM s.cond 2) (typeFaultM s.expr 1)) 0
    · have hm : procC (s :: rest) = first2 (typeFaultM s.cond 2) (typeFaultM s.expr 1) := by simp [procC, c, notB]
      rw [hm, c, if_neg (by simp)]
      refine evLoop_out ?_ (by simp)
      simp (maxSteps := 1000000) +contextual -dsimp [Tryz.f87, f_first2, hlt, hi, hc, g1, g2, c, List.set]
    · have ih := loop19c all hall hf rest (i + 1) hr
      rw [he] at ih
      have hm : procC (s :: rest) = procC rest := by simp [procC, c, notB]
      rw [hm]
      refine evLoop_next ?_ (by simpa only [List.length_cons] using ih)
      simp (maxSteps := 1000000) +contextual -dsimp [Tryz.f87, f_first2, hlt, hi, hc, hw, g1, g2, c, List.set]
end Go.TM.Lr

namespace Go.TM.Lr
open Go Go.TM Go.Proofs
set_option maxRecDepth 20000
attribute [local congr] gif_cg
attribute [local simp] footOf noClash clash upsets setsHit setHits layHits layMeets setsMeet evFeet

theorem step_zero {s : Step} {list deep : List Int} (h : stepM s list deep = 0) : nextBad list s.parent = false := by
  have hz : stepA s list deep = 0 := by
    unfold stepM at h
    split at h
    · rename_i c; rw [h] at c; simp [notB, eqI] at c
    · rename_i c; simpa [notB, eqI] using c
  have h1 := (first2_zero hz).2
  unfold nextM at h1
  split at h1
  · simp at h1
  · rename_i d1; simpa using d1

theorem procA_par : ∀ {rest : List Step} {list deep : List Int}, Tree list → deep.length = list.length → (∀ d, d ∈ deep → 0 ≤ d ∧ d ≤ list.length) → (procA rest list deep).1 = 0 →
    ∀ (k : Nat) (s : Step), rest[k]? = some s → -1 ≤ s.parent ∧ s.parent < (list.length + k : Nat) ∧ (0 < list.length + k → 0 ≤ s.parent)
  | [], _, _, _, _, _, _, k, s, hk => by simp at hk
  | x :: rest, list, deep, ht, hd, hv, h, k, s, hk => by
    cases c : eqI (stepM x list deep) 0
    · have hm : (procA (x :: rest) list deep).1 = stepM x list deep := by simp [procA, c, notB]
      rw [hm] at h; rw [h] at c; simp [eqI] at c
    · have hz : stepM x list deep = 0 := by simpa [eqI] using c
      obtain ⟨n1, n2, n3, n4, n5⟩ := step_next hz ht hd hv
      have hm : procA (x :: rest) list deep = procA rest (list ++ [x.parent]) (deep ++ [nextDeep deep x.parent]) := by simp [procA, c, notB, n1]
      rw [hm] at h
      cases k with
      | zero =>
        simp at hk; subst hk
        refine ⟨n3, by simpa using n4, fun h0 => ?_⟩
        have hb := step_zero hz
        simp only [nextBad, orB, andB, notB, eqI, ltI, inR, leI, Bool.or_eq_false_iff, Bool.and_eq_false_iff, Bool.not_eq_false', beq_eq_false_iff_ne, beq_iff_eq, decide_eq_false_iff_not, decide_eq_true_eq, Bool.and_eq_true] at hb
        omega
      | succ k =>
        have := procA_par n2 (by simp; omega) n5 h k s (by simpa using hk)
        simp only [List.length_append, List.length_cons, List.length_nil] at this
        have e : list.length + (0 + 1) + k = list.length + (k + 1) := by omega
        rw [e] at this
        exact this

def procM (l : List Step) : Int :=
  if notB (inR l.length 1 24) = true then 2
  else if notB (eqI (procA l [] []).1 0) = true then (procA l [] []).1
  else if notB (eqI (procB l l.length 0) 0) = true then procB l l.length 0
  else if notB (eqI (procC l) 0) = true then procC l else 0

set_option maxHeartbeats 1000000 in
theorem f_ProcFault (l : List Step) (hl : l.length < 2 ^ 62) (hf : ∀ s, s ∈ l → FitS s) : fo 87 [A (.sl 99 (l.map (sT 201)))] = some (R (vI (procM l))) := by
  cases c1 : inR l.length 1 24
  · refine orc_87 1 ?_
    simp (maxSteps := 1000000) +contextual -dsimp [Tryz.f87, f_inRange, c1, procM]
  · have hl2 : 1 ≤ l.length ∧ l.length ≤ 24 := by simp [inR, andB, leI] at c1; omega
    have ha := loop19a l hl2.2 hf l 0 [] [] rfl (fun k h => by simp at h) rfl rfl (by simp)
    refine orc_87 (l.length + 1) ?_
    simp -dsimp [Tryz.f87, pR, iE] at ha
    cases c2 : eqI (procA l [] []).1 0
    · rw [c2] at ha
      simp (maxSteps := 1000000) +contextual -dsimp [Tryz.f87, f_inRange, c1, c2, ha, procM]
    · have hpar := procA_par (rest := l) (list := []) (deep := []) (fun k h => by simp at h) rfl (by simp) (by simpa [eqI] using c2)
      have hb := loop19b l hl2.2 (fun k h0 hk => by
        have := hpar k l[k] (by simp [hk])
        have e : parOf l k = (l[k]).parent := by simp [parOf, hk]
        rw [e]
        simp at this
        omega) (fun k => by
        unfold condOf
        split
        · rename_i s hs; exact (hf s (List.mem_of_getElem? hs)).cond
        · simp) l.length 0 (by omega)
      have hcc := loop19c l hl2.2 hf l 0 rfl
      rw [c2] at ha
      simp -dsimp [Tryz.f87] at hb hcc
      cases c3 : eqI (procB l l.length 0) 0
      · rw [c3] at hb
        simp (maxSteps := 1000000) +contextual -dsimp [Tryz.f87, f_inRange, c1, c2, c3, ha, hb, procM]
      · rw [c3] at hb
        cases c4 : eqI (procC l) 0
        · rw [c4] at hcc
          simp (maxSteps := 1000000) +contextual -dsimp [Tryz.f87, f_inRange, c1, c2, c3, c4, ha, hb, hcc, procM]
        · rw [c4] at hcc
          simp (maxSteps := 1000000) +contextual -dsimp [Tryz.f87, f_inRange, c1, c2, c3, c4, ha, hb, hcc, procM]
end Go.TM.Lr

namespace Go.TM.Lr
open Go Go.TM Go.Proofs
set_option maxRecDepth 20000
attribute [local congr] gif_cg
attribute [local simp] footOf noClash clash upsets setsHit setHits layHits layMeets setsMeet evFeet

theorem loop55 (all : List Node) (hall : all.length ≤ 16) : ∀ (rest : List Node) (i : Nat) (acc : List Int), all.drop i = rest → acc.length = i →
    (∀ (k : Nat) (n : Node), rest[k]? = some n → (ltI 2 n.kind = true → 0 ≤ n.left ∧ n.left < (i + k : Nat)) ∧ (inR n.kind 3 9 = true → 0 ≤ n.right ∧ n.right < (i + k : Nat))) →
    evLoop E (orc E) (147 : Nat) (rest.length + 1) (loopOf Tryz.f147 0) ⟨62, [(0, nS 201 all), (4, .ref 4 1 [] 0 acc.length), (5, vI i)], [(4, ⟨1, 1, false, [.own 2 (iW acc)]⟩)], 2⟩ =
    (if (types4M rest acc).1 = true then some (.exit 0, ⟨62, [(0, nS 201 all), (4, .ref 4 1 [] 0 (types4M rest acc).2.length), (5, vI (i + rest.length : Nat)), (13, vB false)], [(4, ⟨1, 1, false, [.own 2 (iW (types4M rest acc).2)]⟩)], 2⟩)
     else some (.ret, ⟨62, [(2, .v (.slice none 0 0)), (3, vB false)], [(4, ⟨1, 1, false, [.own 2 (iW (types4M rest acc).2)]⟩)], 2⟩))
  | [], i, acc, h, hs, ho => by
    have hge : all.length ≤ i := by simpa using h
    have hlt : ltI (i : Int) (all.length : Int) = false := ltI_f (by omega)
    rw [loop_eq]
    simp +contextual -dsimp [Tryz.f147, hlt, types4M]
  | n :: rest, i, acc, h, hs, ho => by
    obtain ⟨hi, hc, hr⟩ := drop_cons h
    have he : i + 1 + rest.length = i + (rest.length + 1) := by omega
    have ih := loop55 all hall rest (i + 1) (acc ++ [is4 n.kind]) hr (by simp; omega) (fun k m hk => by
      have := ho (k + 1) m (by simpa using hk)
      have e : i + 1 + k = i + (k + 1) := by omega
      rw [e]; exact this)
    rw [he] at ih
    obtain ⟨o1, o2⟩ := ho 0 n (by simp)
    have z : ltI 2 n.kind = false ∧ inR n.kind 3 9 = false ∨ ltI 2 n.kind = true ∧ inR n.kind 3 9 = false ∨ ltI 2 n.kind = true ∧ inR n.kind 3 9 = true := by
      cases c2 : ltI 2 n.kind
      · left
        refine ⟨rfl, ?_⟩
        simp [ltI, inR, andB, leI] at c2 ⊢; omega
      · right
        cases c3 : inR n.kind 3 9 <;> simp
    cases cb : bad4 n acc
    · have hm : types4M (n :: rest) acc = types4M rest (acc ++ [is4 n.kind]) := by simp [types4M, cb]
      rw [hm]
      refine evLoop_next ?_ (by simpa only [List.length_cons] using ih)
      rcases z with ⟨c2, c3⟩ | ⟨c2, c3⟩ | ⟨c2, c3⟩
      · exact st55na all i _ n acc hall hi hc hs cb c2 c3
      · obtain ⟨p1, p2⟩ := o1 c2
        obtain ⟨a, ha⟩ := Int.eq_ofNat_of_zero_le p1
        exact st55nb all i _ n acc hall hi hc hs cb c2 c3 a ha (by omega)
      · obtain ⟨p1, p2⟩ := o1 c2
        obtain ⟨a, ha⟩ := Int.eq_ofNat_of_zero_le p1
        obtain ⟨p3, p4⟩ := o2 c3
        obtain ⟨b, hb⟩ := Int.eq_ofNat_of_zero_le p3
        exact st55nc all i _ n acc hall hi hc hs cb c2 c3 a b ha (by omega) hb (by omega)
    · have hm : types4M (n :: rest) acc = (false, acc) := by simp [types4M, cb]
      rw [hm, if_neg (by simp)]
      refine evLoop_out ?_ (by simp)
      rcases z with ⟨c2, c3⟩ | ⟨c2, c3⟩ | ⟨c2, c3⟩
      · unfold bad4 at cb
        rw [c2, c3] at cb
        simp [orB, andB] at cb
      · obtain ⟨p1, p2⟩ := o1 c2
        obtain ⟨a, ha⟩ := Int.eq_ofNat_of_zero_le p1
        exact st55rb all i _ n acc hall hi hc hs cb c2 c3 a ha (by omega)
      · obtain ⟨p1, p2⟩ := o1 c2
        obtain ⟨a, ha⟩ := Int.eq_ofNat_of_zero_le p1
        obtain ⟨p3, p4⟩ := o2 c3
        obtain ⟨b, hb⟩ := Int.eq_ofNat_of_zero_le p3
        exact st55rc all i _ n acc hall hi hc hs cb c2 c3 a b ha (by omega) hb (by omega)

def RTy (l : List Node) : Res := if (types4M l []).1 = true then ⟨.tup [.own 2 (iW (types4M l []).2), vB true], [], true⟩ else ⟨.tup [.own 2 [], vB false], [], true⟩

theorem f_l3Types (l : List Node) (hl : l.length ≤ 16) (hg : Good l) : fo 147 [A (nS 201 l)] = some (RTy l) := by
  have hlp := loop55 l hl l 0 [] rfl rfl (fun k n hk => by
    have hk2 : k < l.length := (List.getElem?_eq_some_iff.1 hk).1
    have he := (List.getElem?_eq_some_iff.1 hk).2
    have := hg k hk2
    rw [he] at this
    simpa using this)
  refine orc_147 (l.length + 1) ?_
  simp -dsimp [Tryz.f147] at hlp
  unfold RTy
  cases c : (types4M l []).1
  · rw [c] at hlp
    simp (maxSteps := 1000000) +contextual -dsimp [Tryz.f147, hlp, List.set]
  · rw [c] at hlp
    have hc := clean_iW (types4M l []).2
    simp (maxSteps := 1000000) +contextual -dsimp [Tryz.f147, hlp, hc, List.set]

theorem types4_len : ∀ (l : List Node) (acc : List Int), (types4M l acc).1 = true → (types4M l acc).2.length = acc.length + l.length
  | [], acc, _ => by simp [types4M]
  | n :: l, acc, h => by
    unfold types4M at h ⊢
    split at h
    · simp at h
    · rename_i hc
      rw [if_neg hc]
      rw [types4_len l _ h]; simp; omega

theorem expr4_zero {l : List Node} (h : expr4M l = 0) : 1 ≤ l.length ∧ l.length ≤ 16 ∧ nodes4M 0 l = 0 := by
  unfold expr4M at h
  split at h
  · simp at h
  · rename_i c1
    split at h
    · rename_i c2; rw [h] at c2; simp [notB, eqI] at c2
    · rename_i c2
      simp [orB, ltI] at c1
      simp [notB, eqI] at c2
      omega

theorem nodes4_good {l : List Node} (h0 : nodes4M 0 l = 0) : Good l := fun k hk => by
  have hz := nodes4_ok h0 k l[k] (by simp [hk])
  rw [Nat.zero_add] at hz
  exact l3Node_ok hz

def type4M (l : List Node) : Int × Int :=
  if notB (eqI (expr4M l) 0) = true then (0, expr4M l)
  else if (types4M l []).1 = true then (szAt (types4M l []).2 (l.length - 1), 0) else (0, 7)

theorem f_l3Type (l : List Node) (hl : l.length < 2 ^ 62) : fo 127 [A (nS 201 l)] = some (R2 (vI (type4M l).1) (vI (type4M l).2)) := by
  have g := f_l3Fault l hl
  refine orc_127 1 ?_
  cases c1 : eqI (expr4M l) 0
  · simp (maxSteps := 1000000) +contextual -dsimp [Tryz.f127, g, c1, type4M]
  · have e0 : expr4M l = 0 := by simpa [eqI] using c1
    obtain ⟨h1, h2, h3⟩ := expr4_zero e0
    have g2 := f_l3Types l h2 (nodes4_good h3)
    unfold RTy at g2
    cases c2 : (types4M l []).1
    · rw [c2] at g2
      simp only [Bool.false_eq_true, if_false] at g2
      simp (maxSteps := 1000000) +contextual -dsimp [Tryz.f127, g, e0, c2, g2, type4M, eqI_self]
    · rw [c2] at g2
      simp only [if_true] at g2
      have hlen := types4_len l [] c2
      simp at hlen
      have hlt : l.length - 1 < (types4M l []).2.length := by omega
      have hlt2 : l.length - 1 < l.length := by omega
      have hw : IntKind.i64.wrap ((l.length : Int) - 1) = ((l.length - 1 : Nat) : Int) := by rw [wrapI] <;> omega
      have e1 : szAt (types4M l []).2 ((l.length : Int) - 1) = (types4M l []).2[l.length - 1] := by
        have : ((l.length : Int) - 1).toNat = l.length - 1 := by omega
        simp [szAt, this, hlt]
      simp (maxSteps := 1000000) +contextual -dsimp [Tryz.f127, g, e0, c2, g2, hlen, hw, hlt2, e1, type4M, eqI_self, sealEs_iW]

def typed4M (l : List Node) (want : Int) : Int :=
  if eqI l.length 0 = true then 0
  else if notB (eqI (type4M l).2 0) = true then (type4M l).2
  else if notB (eqI (type4M l).1 want) = true then 7 else 0

theorem f_l4Typed (l : List Node) (hl : l.length < 2 ^ 62) (want : Int) : fo 100 [A (nS 201 l), A (vI want)] = some (R (vI (typed4M l want))) := by
  have g := f_l3Type l hl
  refine orc_100 1 ?_
  cases c1 : eqI l.length 0
  · cases c2 : eqI (type4M l).2 0
    · simp (maxSteps := 1000000) +contextual -dsimp [Tryz.f100, g, c1, c2, typed4M]
    · cases c3 : eqI (type4M l).1 want
      · simp (maxSteps := 1000000) +contextual -dsimp [Tryz.f100, g, c1, c2, c3, typed4M]
      · simp (maxSteps := 1000000) +contextual -dsimp [Tryz.f100, g, c1, c2, c3, typed4M]
  · simp (maxSteps := 1000000) +contextual -dsimp [Tryz.f100, c1, typed4M]
end Go.TM.Lr

namespace Go.TM.Lr
open Go Go.TM Go.Proofs
set_option maxRecDepth 20000
attribute [local congr] gif_cg
attribute [local simp] footOf noClash clash upsets setsHit setHits layHits layMeets setsMeet evFeet

def bare4 (s : Step) : Bool := andB (andB (orB (eqI s.kind 2) (eqS s.name emp)) (orB (inR s.kind 5 8) (eqI s.arg 0))) (orB (eqI s.kind 7) (eqI s.expr.length 0))
theorem f_bare4 (s : Step) : fo 119 [A (.ipt (sT 201 s))] = some (R (vB (bare4 s))) := f_l4Bare s

def par4 (s : Step) (i : Nat) : Bool := orB (andB (eqI (i : Int) 0) (notB (eqI s.parent (-1)))) (andB (ltI 0 (i : Int)) (notB (inR s.parent 0 ((i : Int) - 1))))
def line4 (l : List Step) (i : Nat) : Bool := lineM l (parOf l i) (i + 1) ((i : Int) - 1)
def deep4 (l : List Step) (i : Nat) : Int := deepM l (i + 2) i
theorem f_line4 (l : List Step) (hl : l.length ≤ 1000) (i : Nat) (hi : i < l.length) (ha : Ahead l i) : fo 120 [A (.sl 99 (l.map (sT 201))), A (vI i)] = some (R (vB (line4 l i))) := f_l4Line l hl i hi ha
theorem f_deep4 (l : List Step) (hl : l.length ≤ 24) (i : Nat) (hi : i < l.length) (ha : Ahead l (i + 1)) : fo 121 [A (.sl 99 (l.map (sT 201))), A (vI i)] = some (R (vI (deep4 l i))) := f_l4Deep l hl i hi ha

def tail4 (s : Step) : Int :=
  if notB (argM s.kind s.arg) = true then 3 else if eqI s.kind 7 = true then expr4M s.expr else 0
def one4M (l : List Step) (i : Nat) (s : Step) : Int :=
  if orB (notB (inR s.kind 1 8)) (notB (bare4 s)) = true then 1
  else if par4 s i = true then 3
  else if andB (ltI 0 (i : Int)) (notB (line4 l i)) = true then 1
  else if ltI 7 (deep4 l i) = true then 2
  else if eqI s.kind 2 = true then (if notB (eqI (name4M s.name) 0) = true then name4M s.name else tail4 s)
  else tail4 s

theorem par4_ok {s : Step} {i : Nat} (h : par4 s i = false) : -1 ≤ s.parent ∧ s.parent < i := by
  unfold par4 at h
  simp only [orB, andB, notB, inR, leI, ltI, eqI, Bool.or_eq_false_iff, Bool.and_eq_false_iff, Bool.not_eq_false', decide_eq_true_eq, decide_eq_false_iff_not, beq_eq_false_iff_ne, beq_iff_eq, Bool.and_eq_true] at h
  omega

set_option maxHeartbeats 2000000 in
theorem f_l4One (l : List Step) (hl : l.length ≤ 24) (i : Nat) (hi : i < l.length) (ha : Ahead l i) (hn : (l[i]).name.size < 2 ^ 62) (hx : (l[i]).expr.length < 2 ^ 62) :
    fo 98 [A (.sl 99 (l.map (sT 201))), A (vI i)] = some (R (vI (one4M l i l[i]))) := by
  have hw : IntKind.i64.wrap ((i : Int) - 1) = (i : Int) - 1 := by rw [wrapI] <;> omega
  have g1 := f_line4 l (by omega) i hi ha
  have g3 := f_l1Name (l[i]).name hn
  have g4 := f_l3Fault (l[i]).expr hx
  refine orc_98 1 ?_
  cases c1 : orB (notB (inR (l[i]).kind 1 8)) (notB (bare4 (l[i])))
  · cases c2 : par4 (l[i]) i
    · have ha2 : Ahead l (i + 1) := fun k hk hk2 => by
        by_cases e : k = i
        · subst e; exact par4_ok c2
        · exact ha k hk (by omega)
      have g2 := f_deep4 l hl i hi ha2
      have d2 := c2
      unfold par4 at d2
      cases c3 : andB (ltI 0 (i : Int)) (notB (line4 l i))
      · cases c4 : ltI 7 (deep4 l i)
        · cases c5 : eqI (l[i]).kind 2
          · cases c6 : argM (l[i]).kind (l[i]).arg <;> cases c7 : eqI (l[i]).kind 7
            all_goals simp (maxSteps := 1000000) +contextual -dsimp [Tryz.f98, f_l1In, f_bare4, f_l4Arg, hi, hw, g1, g2, g4, c1, c2, d2, c3, c4, c5, c6, c7, one4M, tail4]
          · have c7 : eqI (l[i]).kind 7 = false := by simp [eqI] at c5 ⊢; omega
            cases c8 : eqI (name4M (l[i]).name) 0 <;> cases c6 : argM (l[i]).kind (l[i]).arg
            all_goals simp (maxSteps := 1000000) +contextual -dsimp [Tryz.f98, f_l1In, f_bare4, f_l4Arg, hi, hw, g1, g2, g3, c1, c2, d2, c3, c4, c5, c6, c7, c8, one4M, tail4]
        · simp (maxSteps := 1000000) +contextual -dsimp [Tryz.f98, f_l1In, f_bare4, hi, hw, g1, g2, c1, c2, d2, c3, c4, one4M]
      · simp (maxSteps := 1000000) +contextual -dsimp [Tryz.f98, f_l1In, f_bare4, hi, hw, g1, c1, c2, d2, c3, one4M]
    · have d2 := c2
      unfold par4 at d2
      simp (maxSteps := 1000000) +contextual -dsimp [Tryz.f98, f_l1In, f_bare4, hi, hw, c1, c2, d2, one4M]
  · simp (maxSteps := 1000000) +contextual -dsimp [Tryz.f98, f_l1In, f_bare4, hi, c1, one4M]
end Go.TM.Lr

namespace Go.TM.Lr
open Go Go.TM Go.Proofs
set_option maxRecDepth 20000
attribute [local congr] gif_cg
attribute [local simp] footOf noClash clash upsets setsHit setHits layHits layMeets setsMeet evFeet

theorem seal4_iE (l : List Int) : sealEs (iE l) = iE l := sealEs_map (f := fun n => [vI n]) (g := fun n => [vI n]) (fun a => by simp [sealL, seal_]) _

def kidsN (l : List Step) (i : Int) : Int := (kids4M i 0 l).length
def shapeOne (l : List Step) (i : Nat) (s : Step) : Int :=
  if notB (manyM s.kind (kidsN l i)) = true then 1
  else if notB (eqB (needsM l i) (ltI 0 s.cond.length)) = true then 1
  else if ltI 0 s.cond.length = true then expr4M s.cond else 0
def shapeM (l : List Step) : Nat → List Step → Int
  | _, [] => 0
  | i, s :: r => if eqI (shapeOne l i s) 0 = true then shapeM l (i + 1) r else shapeOne l i s

set_option maxHeartbeats 2000000 in
theorem loop23 (all : List Step) (hall : all.length ≤ 24) (hp : ∀ k, k < all.length → parOf all k < all.length) (hx : ∀ s, s ∈ all → s.cond.length < 2 ^ 62) : ∀ (rest : List Step) (i : Nat), all.drop i = rest →
    evLoop E (orc E) (99 : Nat) (rest.length + 1) (loopOf Tryz.f99 0) ⟨49, [(0, .sl 99 (all.map (sT 201))), (3, vI i)], [], 2⟩ =
    (if eqI (shapeM all i rest) 0 = true then some (.exit 0, ⟨49, [(0, .sl 99 (all.map (sT 201))), (3, vI (i + rest.length : Nat)), (8, vB false)], [], 2⟩) else some (.ret, ⟨49, [(2, vI (shapeM all i rest))], [], 2⟩))
  | [], i, h => by
    have hge : all.length ≤ i := by simpa using h
    have hlt : ltI (i : Int) (all.length : Int) = false := ltI_f (by omega)
    rw [loop_eq]
    simp +contextual -dsimp [Tryz.f99, hlt, shapeM, eqI]
  | s :: rest, i, h => by
    obtain ⟨hi, hc, hr⟩ := drop_cons h
    have hlt : ltI (i : Int) (all.length : Int) = true := ltI_t (by omega)
    have hw : IntKind.i64.wrap ((i : Int) + 1) = ((i + 1 : Nat) : Int) := by rw [wrapI] <;> omega
    have he : i + 1 + rest.length = i + (rest.length + 1) := by omega
    have g1 := f_l4Kids all (by omega) i
    have g2 := f_l4Needs all (by omega) i hi (hp i hi)
    have g3 := f_l3Fault s.cond (hx s (by rw [← hc]; exact List.getElem_mem _))
    have hs := seal4_iE (kids4M (i : Int) 0 all)
    cases c : eqI (shapeOne all i s) 0
    · have hm : shapeM all i (s :: rest) = shapeOne all i s := by simp [shapeM, c]
      rw [hm, c, if_neg (by simp)]
      refine evLoop_out ?_ (by simp)
      unfold shapeOne kidsN at c ⊢
      cases c1 : manyM s.kind (kids4M (i : Int) 0 all).length
      · simp (maxSteps := 1000000) +contextual -dsimp [Tryz.f99, f_l4Many, hlt, hi, hc, g1, hs, c1]
      · cases c2 : eqB (needsM all i) (ltI 0 s.cond.length)
        · simp (maxSteps := 1000000) +contextual -dsimp [Tryz.f99, f_l4Many, hlt, hi, hc, g1, hs, g2, c1, c2]
        · cases c3 : ltI 0 s.cond.length
          · rw [c1, c2, c3] at c; simp [notB, eqI] at c
          · have c2' := c2
            rw [c3] at c2'
            cases c4 : eqI (expr4M s.cond) 0
            · simp (maxSteps := 1000000) +contextual -dsimp [Tryz.f99, f_l4Many, hlt, hi, hc, g1, hs, g2, g3, c1, c2', c3, c4]
            · rw [c1, c2, c3] at c; simp [notB, c4] at c
    · have ih := loop23 all hall hp hx rest (i + 1) hr
      rw [he] at ih
      have hm : shapeM all i (s :: rest) = shapeM all (i + 1) rest := by simp [shapeM, c]
      rw [hm]
      refine evLoop_next ?_ (by simpa only [List.length_cons] using ih)
      unfold shapeOne kidsN at c
      cases c1 : manyM s.kind (kids4M (i : Int) 0 all).length
      · rw [c1] at c; simp [notB, eqI] at c
      · cases c2 : eqB (needsM all i) (ltI 0 s.cond.length)
        · rw [c1, c2] at c; simp [notB, eqI] at c
        · cases c3 : ltI 0 s.cond.length
          · have c2' := c2
            rw [c3] at c2'
            simp (maxSteps := 1000000) +contextual -dsimp [Tryz.f99, f_l4Many, hlt, hi, hc, hw, g1, hs, g2, c1, c2', c3]
          · have c2' := c2
            rw [c3] at c2'
            cases c4 : eqI (expr4M s.cond) 0
            · rw [c1, c2, c3] at c; simp [notB, c4] at c
            · simp (maxSteps := 1000000) +contextual -dsimp [Tryz.f99, f_l4Many, hlt, hi, hc, hw, g1, hs, g2, g3, c1, c2', c3, c4]

theorem f_l4Shape (l : List Step) (hl : l.length ≤ 24) (hp : ∀ k, k < l.length → parOf l k < l.length) (hx : ∀ s, s ∈ l → s.cond.length < 2 ^ 62) :
    fo 99 [A (.sl 99 (l.map (sT 201)))] = some (R (vI (shapeM l 0 l))) := by
  have hlp := loop23 l hl hp hx l 0 rfl
  refine orc_99 (l.length + 1) ?_
  simp -dsimp [Tryz.f99] at hlp
  cases c : eqI (shapeM l 0 l) 0
  · rw [c] at hlp
    simp (maxSteps := 1000000) +contextual -dsimp [Tryz.f99, hlp]
  · rw [c] at hlp
    have c' : shapeM l 0 l = 0 := by simpa [eqI] using c
    simp (maxSteps := 1000000) +contextual -dsimp [Tryz.f99, c', hlp]
end Go.TM.Lr

namespace Go.TM.Lr
open Go Go.TM Go.Proofs
set_option maxRecDepth 20000
attribute [local congr] gif_cg
attribute [local simp] footOf noClash clash upsets setsHit setHits layHits layMeets setsMeet evFeet

def onesM (l : List Step) : Nat → List Step → Int
  | _, [] => 0
  | i, s :: r => if eqI (one4M l i s) 0 = true then onesM l (i + 1) r else one4M l i s

theorem one4_par {l : List Step} {i : Nat} {s : Step} (h : eqI (one4M l i s) 0 = true) : par4 s i = false := by
  unfold one4M at h
  split at h
  · simp [eqI] at h
  · split at h
    · simp [eqI] at h
    · rename_i c; simpa using c

abbrev FitX (l : List Step) : Prop := ∀ s, s ∈ l → s.name.size < 2 ^ 62 ∧ s.cond.length < 2 ^ 62 ∧ s.expr.length < 2 ^ 62

theorem loop16a (all : List Step) (hall : all.length ≤ 24) (hf : FitX all) : ∀ (rest : List Step) (i : Nat), all.drop i = rest → Ahead all i →
    evLoop E (orc E) (82 : Nat) (rest.length + 1) (loopOf Tryz.f82 0) ⟨58, [(0, .sl 99 (all.map (sT 201))), (3, vI i)], [], 2⟩ =
    (if eqI (onesM all i rest) 0 = true then some (.exit 0, ⟨58, [(0, .sl 99 (all.map (sT 201))), (3, vI (i + rest.length : Nat)), (20, vB false)], [], 2⟩) else some (.ret, ⟨58, [(2, vI (onesM all i rest))], [], 2⟩))
  | [], i, h, _ => by
    have hge : all.length ≤ i := by simpa using h
    have hlt : ltI (i : Int) (all.length : Int) = false := ltI_f (by omega)
    rw [loop_eq]
    simp +contextual -dsimp [Tryz.f82, hlt, onesM, eqI]
  | s :: rest, i, h, ha => by
    obtain ⟨hi, hc, hr⟩ := drop_cons h
    have hlt : ltI (i : Int) (all.length : Int) = true := ltI_t (by omega)
    have hw : IntKind.i64.wrap ((i : Int) + 1) = ((i + 1 : Nat) : Int) := by rw [wrapI] <;> omega
    have he : i + 1 + rest.length = i + (rest.length + 1) := by omega
    have hs := hf s (by rw [← hc]; exact List.getElem_mem _)
    have g := f_l4One all hall i hi ha (by rw [hc]; exact hs.1) (by rw [hc]; exact hs.2.2)
    rw [hc] at g
    cases c : eqI (one4M all i s) 0
    · have hm : onesM all i (s :: rest) = one4M all i s := by simp [onesM, c]
      rw [hm, c, if_neg (by simp)]
      refine evLoop_out ?_ (by simp)
      simp (maxSteps := 1000000) +contextual -dsimp [Tryz.f82, hlt, g, c]
    · have ha2 : Ahead all (i + 1) := fun k hk hk2 => by
        by_cases e : k = i
        · subst e; rw [hc]; exact par4_ok (one4_par c)
        · exact ha k hk (by omega)
      have ih := loop16a all hall hf rest (i + 1) hr ha2
      rw [he] at ih
      have hm : onesM all i (s :: rest) = onesM all (i + 1) rest := by simp [onesM, c]
      rw [hm]
      refine evLoop_next ?_ (by simpa only [List.length_cons] using ih)
      simp (maxSteps := 1000000) +contextual -dsimp [Tryz.f82, hlt, hw, g, c]

def typOne (s : Step) : Int := if eqI (typed4M s.cond 2) 0 = true then typed4M s.expr 1 else typed4M s.cond 2
def typsM : List Step → Int
  | [] => 0
  | s :: r => if eqI (typOne s) 0 = true then typsM r else typOne s

theorem loop16b (all : List Step) (hall : all.length ≤ 24) (hf : FitX all) : ∀ (rest : List Step) (i : Nat), all.drop i = rest →
    evLoop E (orc E) (82 : Nat) (rest.length + 1) (loopOf Tryz.f82 1) ⟨58, [(0, .sl 99 (all.map (sT 201))), (6, vI i)], [], 2⟩ =
    (if eqI (typsM rest) 0 = true then some (.exit 2, ⟨58, [(0, .sl 99 (all.map (sT 201))), (6, vI (i + rest.length : Nat)), (37, vB false)], [], 2⟩) else some (.ret, ⟨58, [(2, vI (typsM rest))], [], 2⟩))
  | [], i, h => by
    have hge : all.length ≤ i := by simpa using h
    have hlt : ltI (i : Int) (all.length : Int) = false := ltI_f (by omega)
    rw [loop_eq]
    simp +contextual -dsimp [Tryz.f82, hlt, typsM, eqI]
  | s :: rest, i, h => by
    obtain ⟨hi, hc, hr⟩ := drop_cons h
    have hlt : ltI (i : Int) (all.length : Int) = true := ltI_t (by omega)
    have hw : IntKind.i64.wrap ((i : Int) + 1) = ((i + 1 : Nat) : Int) := by rw [wrapI] <;> omega
    have he : i + 1 + rest.length = i + (rest.length + 1) := by omega
    have hs := hf s (by rw [← hc]; exact List.getElem_mem _)
    have g1 := f_l4Typed s.cond hs.2.1 2
    have g2 := f_l4Typed s.expr hs.2.2 1
    cases c : eqI (typOne s) 0
    · have hm : typsM (s :: rest) = typOne s := by simp [typsM, c]
      rw [hm, c, if_neg (by simp)]
      refine evLoop_out ?_ (by simp)
      cases c1 : eqI (typed4M s.cond 2) 0
      · simp (maxSteps := 1000000) +contextual -dsimp [Tryz.f82, hlt, hi, hc, g1, c1, typOne]
      · have c2 : eqI (typed4M s.expr 1) 0 = false := by simpa [typOne, c1] using c
        simp (maxSteps := 1000000) +contextual -dsimp [Tryz.f82, hlt, hi, hc, g1, g2, c1, c2, typOne]
    · have ih := loop16b all hall hf rest (i + 1) hr
      rw [he] at ih
      have hm : typsM (s :: rest) = typsM rest := by simp [typsM, c]
      rw [hm]
      refine evLoop_next ?_ (by simpa only [List.length_cons] using ih)
      cases c1 : eqI (typed4M s.cond 2) 0
      · rw [typOne, c1] at c; simp [c1] at c
      · have c2 : eqI (typed4M s.expr 1) 0 = true := by simpa [typOne, c1] using c
        simp (maxSteps := 1000000) +contextual -dsimp [Tryz.f82, hlt, hi, hc, hw, g1, g2, c1, c2]

def fault4M (l : List Step) : Int :=
  if orB (ltI l.length 1) (ltI 24 l.length) = true then 2
  else if eqI (onesM l 0 l) 0 = true then (if eqI (shapeM l 0 l) 0 = true then typsM l else shapeM l 0 l) else onesM l 0 l

theorem ones_all {l : List Step} : ∀ {r : List Step} {i : Nat}, eqI (onesM l i r) 0 = true → ∀ (k : Nat) (s : Step), r[k]? = some s → eqI (one4M l (i + k) s) 0 = true
  | [], i, _, k, n, h => by simp at h
  | x :: r, i, hz, k, s, h => by
    unfold onesM at hz
    split at hz
    · rename_i hc
      cases k with
      | zero => simp at h; subst h; exact hc
      | succ k =>
        have := ones_all hz k s (by simpa using h)
        have e : i + 1 + k = i + (k + 1) := by omega
        rw [← e]; exact this
    · rename_i hc; exact absurd hz hc

theorem ones_par {l : List Step} (h : eqI (onesM l 0 l) 0 = true) : ∀ k (_hk : k < l.length), -1 ≤ parOf l k ∧ parOf l k < k := fun k hk => by
  have := par4_ok (one4_par (ones_all h k l[k] (by simp [hk])))
  have e : parOf l k = (l[k]).parent := by simp [parOf, hk]
  rw [e]; omega

set_option maxHeartbeats 1000000 in
theorem f_l4Fault (l : List Step) (hl : l.length < 2 ^ 62) (hf : FitX l) : fo 82 [A (.sl 99 (l.map (sT 201)))] = some (R (vI (fault4M l))) := by
  cases c1 : orB (ltI l.length 1) (ltI 24 l.length)
  · have hl2 : 1 ≤ l.length ∧ l.length ≤ 24 := by simp [orB, ltI] at c1; omega
    have ha := loop16a l hl2.2 hf l 0 rfl (fun k _ h => absurd h (by omega))
    have hb := loop16b l hl2.2 hf l 0 rfl
    simp -dsimp [Tryz.f82] at ha hb
    refine orc_82 (l.length + 1) ?_
    cases c2 : eqI (onesM l 0 l) 0
    · rw [c2] at ha
      simp (maxSteps := 1000000) +contextual -dsimp [Tryz.f82, c1, c2, ha, fault4M]
    · rw [c2] at ha
      have g := f_l4Shape l hl2.2 (fun k hk => by have := ones_par c2 k hk; omega) (fun s hs => (hf s hs).2.1)
      cases c3 : eqI (shapeM l 0 l) 0
      · simp (maxSteps := 1000000) +contextual -dsimp [Tryz.f82, c1, c2, c3, ha, g, fault4M]
      · cases c4 : eqI (typsM l) 0
        · rw [c4] at hb
          simp (maxSteps := 1000000) +contextual -dsimp [Tryz.f82, c1, c2, c3, ha, hb, g, fault4M]
        · rw [c4] at hb
          have e4 : typsM l = 0 := by simpa [eqI] using c4
          simp (maxSteps := 1000000) +contextual -dsimp [Tryz.f82, c1, c2, c3, e4, ha, hb, g, fault4M]
  · refine orc_82 1 ?_
    simp (maxSteps := 1000000) +contextual -dsimp [Tryz.f82, c1, fault4M]
end Go.TM.Lr

namespace Go.TM.Lr

theorem node_same (n : Node) (i : Int) : l3NodeM n i = nodeFaultM n i := by
  unfold l3NodeM nodeFaultM first2
  by_cases h1 : n.kind = 1
  · simp only [h1]; simp (config := {decide := true}) only [orB, andB, notB, eqI, leI, inR]
    by_cases a : n.left = 0 <;> by_cases b : n.right = 0 <;> by_cases c : 0 ≤ n.value <;> by_cases d : n.value ≤ 9999 <;> simp [a, b, c, d]
  by_cases h2 : n.kind = 2
  · simp only [h2]; simp (config := {decide := true}) only [orB, andB, notB, eqI, leI, inR]
    by_cases a : n.left = 0 <;> by_cases b : n.right = 0 <;> by_cases c : 0 ≤ n.value <;> by_cases d : n.value ≤ 3 <;> simp [a, b, c, d]
  by_cases h10 : n.kind = 10
  · simp only [h10]; simp (config := {decide := true}) only [orB, andB, notB, eqI, leI, inR]
    by_cases a : n.value = 0 <;> by_cases b : n.right = 0 <;> by_cases c : 0 ≤ n.left <;> by_cases d : n.left ≤ i - 1 <;> simp [a, b, c, d]
  by_cases h3 : 3 ≤ n.kind ∧ n.kind ≤ 9
  · obtain ⟨h3, h9⟩ := h3
    have e1 : 1 ≤ n.kind := by omega
    have e2 : n.kind ≤ 10 := by omega
    have e3 : ¬ n.kind ≤ 2 := by omega
    simp (config := {decide := true}) only [orB, andB, notB, eqI, leI, inR]
    by_cases a : n.value = 0 <;> by_cases c : 0 ≤ n.left <;> by_cases d : n.left ≤ i - 1 <;> by_cases c2 : 0 ≤ n.right <;> by_cases d2 : n.right ≤ i - 1 <;> simp [a, c, d, c2, d2, h1, h2, h3, h9, h10, e1, e2, e3]
  · have : ¬ (1 ≤ n.kind ∧ n.kind ≤ 10) := by omega
    simp [orB, andB, notB, eqI, leI, inR, h1, h2, h10, h3, this]

theorem nodes_same : ∀ (l : List Node) (i : Nat), nodes4M i l = nodesM i l
  | [], _ => rfl
  | n :: l, i => by
    simp only [nodes4M, nodesM, node_same, nodes_same l]

/-! ### the walk, without its stop -/
def post (l : List Node) : Nat → Nat → List Int
  | 0, _ => []
  | f + 1, at_ =>
    match l[at_]? with
    | none => []
    | some n =>
      if ltI 2 n.kind = true then
        (if inR n.kind 3 9 = true then post l f n.left.toNat ++ post l f n.right.toNat else post l f n.left.toNat) ++ [(at_ : Int)]
      else [(at_ : Int)]

theorem walk_mono (l : List Node) : ∀ (f at_ : Nat) (out : List Int), out.length ≤ (walk4M l f at_ out).length
  | 0, _, out => by simp [walk4M]
  | f + 1, at_, out => by
    unfold walk4M
    split
    · exact Nat.le_refl _
    · rename_i n hn
      have h1 := walk_mono l f n.left.toNat out
      have h2 := walk_mono l f n.right.toNat (walk4M l f n.left.toNat out)
      split
      · exact Nat.le_refl _
      · split
        · split
          · simp; omega
          · simp; omega
        · simp

theorem walk_short (l : List Node) : ∀ (f at_ : Nat) (out : List Int), (walk4M l f at_ out).length ≤ 16 → walk4M l f at_ out = out ++ post l f at_
  | 0, _, out, _ => by simp [walk4M, post]
  | f + 1, at_, out, h => by
    have hm := walk_mono l (f + 1) at_ out
    cases hn : l[at_]? with
    | none => simp [walk4M, post, hn]
    | some n =>
      have ho : ltI 16 out.length = false := by simp [ltI]; omega
      simp only [walk4M, post, hn, ho, Bool.false_eq_true, if_false] at h ⊢
      cases c : ltI 2 n.kind
      · simp
      · simp only [c, if_true] at h ⊢
        cases d : inR n.kind 3 9
        · simp only [d, Bool.false_eq_true, if_false] at h ⊢
          simp at h
          rw [walk_short l f _ _ (by omega), List.append_assoc]
        · simp only [d, if_true] at h ⊢
          simp at h
          have h2 := walk_mono l f n.right.toNat (walk4M l f n.left.toNat out)
          rw [walk_short l f n.right.toNat _ (by omega), walk_short l f n.left.toNat out (by omega)]
          simp

theorem walk_long (l : List Node) : ∀ (f at_ : Nat) (out : List Int), out.length + (post l f at_).length ≤ 17 → walk4M l f at_ out = out ++ post l f at_
  | 0, _, out, _ => by simp [walk4M, post]
  | f + 1, at_, out, h => by
    cases hn : l[at_]? with
    | none => simp [walk4M, post, hn]
    | some n =>
      simp only [walk4M, post, hn] at h ⊢
      cases c : ltI 2 n.kind
      · simp only [c, Bool.false_eq_true, if_false] at h ⊢
        simp at h
        have ho : ltI 16 out.length = false := by simp [ltI]; omega
        simp [ho]
      · simp only [c, if_true] at h ⊢
        have ho : ltI 16 out.length = false := by simp at h; simp [ltI]; omega
        simp only [ho, Bool.false_eq_true, if_false]
        cases d : inR n.kind 3 9
        · simp only [d, Bool.false_eq_true, if_false] at h ⊢
          simp at h
          rw [walk_long l f _ _ (by omega), List.append_assoc]
        · simp only [d, if_true] at h ⊢
          simp at h
          rw [walk_long l f n.left.toNat out (by omega), walk_long l f n.right.toNat _ (by simp; omega)]
          simp

theorem post_fuel {l : List Node} (hg : Good l) : ∀ (f g at_ : Nat), at_ < f → at_ < g → post l f at_ = post l g at_
  | 0, _, _, h, _ => by omega
  | f + 1, 0, _, _, h => by omega
  | f + 1, g + 1, at_, h1, h2 => by
    unfold post
    split
    · rfl
    · rename_i n hn
      obtain ⟨hk, he⟩ := List.getElem?_eq_some_iff.1 hn
      obtain ⟨gl, gr⟩ := hg at_ hk
      rw [he] at gl gr
      cases c : ltI 2 n.kind
      · simp
      · have gl := gl c
        simp only [if_true]
        rw [post_fuel hg f g n.left.toNat (by omega) (by omega)]
        cases d : inR n.kind 3 9
        · simp
        · have gr := gr d
          simp only [if_true]
          rw [post_fuel hg f g n.right.toNat (by omega) (by omega)]

/-! ### runs of numbers -/
def Run (a : Int) (L : List Int) : Prop := ∀ (p : Nat) (v : Int), L[p]? = some v → v = a + p

theorem inOrder_iff : ∀ (L : List Int) (i : Nat), inOrder i L = true ↔ Run i L
  | [], i => by simp [inOrder, Run]
  | x :: L, i => by
    have ih := inOrder_iff L (i + 1)
    unfold inOrder
    constructor
    · intro h p v hp
      split at h
      · rename_i c
        cases p with
        | zero => simp [eqI] at c hp; omega
        | succ p =>
          have := (ih.1 h) p v (by simpa using hp)
          simp at this ⊢; omega
      · simp at h
    · intro h
      have h0 : x = i := by simpa using h 0 x (by simp)
      rw [if_pos (by simp [eqI, h0])]
      refine ih.2 fun p v hp => ?_
      have := h (p + 1) v (by simpa using hp)
      simp at this ⊢; omega

theorem Run_app {a : Int} {X Y : List Int} (h1 : Run a X) (h2 : Run (a + X.length) Y) : Run a (X ++ Y) := by
  intro p v hp
  rw [List.getElem?_append] at hp
  split at hp
  · exact h1 p v hp
  · have := h2 _ v hp; omega
theorem Run_left {a : Int} {X Y : List Int} (h : Run a (X ++ Y)) : Run a X := fun p v hp => h p v (by
  obtain ⟨hl, _⟩ := List.getElem?_eq_some_iff.1 hp
  rw [List.getElem?_append_left hl]; exact hp)
theorem Run_right {a : Int} {X Y : List Int} (h : Run a (X ++ Y)) : Run (a + X.length) Y := fun p v hp => by
  have := h (X.length + p) v (by rw [List.getElem?_append_right (by omega)]; simpa using hp)
  simp at this; omega
theorem Run_one (a : Int) : Run a [a] := fun p v hp => by
  cases p with
  | zero => simp at hp; simp [hp]
  | succ p => simp at hp
theorem Run_of {a b : Int} (h : Run a [b]) : b = a := by simpa using h 0 b (by simp)

/-- The number of nodes below one. -/
def sz (l : List Node) (k : Nat) : Int := (post l (k + 1) k).length
def okk (l : List Node) (k : Nat) : Prop := ∀ n, l[k]? = some n →
  (eqI n.kind 10 = true → n.left = k - 1) ∧ (eqI n.kind 10 = false → inR n.kind 3 9 = true → n.right = k - 1 ∧ n.left = k - 1 - sz l n.right.toNat)

theorem post_eq {l : List Node} (hg : Good l) {k : Nat} {n : Node} (h : l[k]? = some n) : post l (k + 1) k =
    if ltI 2 n.kind = true then
        (if inR n.kind 3 9 = true then post l (n.left.toNat + 1) n.left.toNat ++ post l (n.right.toNat + 1) n.right.toNat else post l (n.left.toNat + 1) n.left.toNat) ++ [(k : Int)]
      else [(k : Int)] := by
  obtain ⟨hk, he⟩ := List.getElem?_eq_some_iff.1 h
  obtain ⟨gl, gr⟩ := hg k hk
  rw [he] at gl gr
  conv => lhs; unfold post
  rw [h]
  simp only
  cases c : ltI 2 n.kind
  · simp
  · have gl := gl c
    simp only [if_true]
    rw [post_fuel hg k (n.left.toNat + 1) n.left.toNat (by omega) (by omega)]
    cases d : inR n.kind 3 9
    · simp
    · have gr := gr d
      simp only [if_true]
      rw [post_fuel hg k (n.right.toNat + 1) n.right.toNat (by omega) (by omega)]

theorem kinds {n : Node} {i : Int} (h : nodeFaultM n i = 0) (c : ltI 2 n.kind = true) : (eqI n.kind 10 = true ∧ inR n.kind 3 9 = false) ∨ (eqI n.kind 10 = false ∧ inR n.kind 3 9 = true) := by
  have : 2 < n.kind := by simpa [ltI] using c
  by_cases a : n.kind = 10
  · left; simp [eqI, inR, andB, leI, a]
  · by_cases b : inR n.kind 3 9 = true
    · right; exact ⟨by simp [eqI, a], b⟩
    · exfalso
      unfold nodeFaultM at h
      rw [if_neg (by simp [orB, eqI]; omega), if_neg (by simp [eqI, a]), if_neg b] at h
      simp at h

/-- Where the nodes' places are right, what lies below one stands right ahead of it. -/
theorem ok_run {l : List Node} (hg : Good l) (hf : ∀ k n, l[k]? = some n → nodeFaultM n (k : Nat) = 0) (ho : ∀ k, k < l.length → okk l k) : ∀ (m k : Nat), k < m → k < l.length → Run (k + 1 - sz l k) (post l (k + 1) k)
  | 0, _, h, _ => by omega
  | m + 1, k, h, hk => by
    have hn : l[k]? = some l[k] := by simp [hk]
    obtain ⟨o1, o2⟩ := ho k hk _ hn
    obtain ⟨gl, gr⟩ := hg k hk
    have hs : sz l k = (post l (k + 1) k).length := rfl
    have hp := post_eq hg hn
    cases c : ltI 2 (l[k]).kind
    · rw [c] at hp
      simp at hp
      rw [hs, hp]
      have := Run_one k
      simpa using this
    · have gl := gl c
      rw [c] at hp
      simp only [if_true] at hp
      rcases kinds (hf k _ hn) c with ⟨d, e⟩ | ⟨d, e⟩
      · have o1 := o1 d
        rw [e] at hp
        simp only [Bool.false_eq_true, if_false] at hp
        have ih := ok_run hg hf ho m (l[k]).left.toNat (by omega) (by omega)
        have hs1 : sz l (l[k]).left.toNat = (post l ((l[k]).left.toNat + 1) (l[k]).left.toNat).length := rfl
        have hs2 : sz l k = sz l (l[k]).left.toNat + 1 := by rw [hs, hp, hs1]; simp
        rw [hp]
        refine Run_app ?_ ?_
        · have e1 : (k : Int) + 1 - sz l k = ((l[k]).left.toNat : Nat) + 1 - sz l (l[k]).left.toNat := by omega
          rw [e1]; exact ih
        · have e1 : (k : Int) + 1 - sz l k + (post l ((l[k]).left.toNat + 1) (l[k]).left.toNat).length = k := by omega
          rw [e1]; exact Run_one _
      · obtain ⟨o3, o4⟩ := o2 d e
        have gr := gr e
        rw [e] at hp
        simp only [if_true] at hp
        have ih1 := ok_run hg hf ho m (l[k]).left.toNat (by omega) (by omega)
        have ih2 := ok_run hg hf ho m (l[k]).right.toNat (by omega) (by omega)
        have hs1 : sz l (l[k]).left.toNat = (post l ((l[k]).left.toNat + 1) (l[k]).left.toNat).length := rfl
        have hs3 : sz l (l[k]).right.toNat = (post l ((l[k]).right.toNat + 1) (l[k]).right.toNat).length := rfl
        have hs2 : sz l k = sz l (l[k]).left.toNat + sz l (l[k]).right.toNat + 1 := by rw [hs, hp, hs1, hs3]; simp; omega
        rw [hp]
        refine Run_app (Run_app ?_ ?_) ?_
        · have e1 : (k : Int) + 1 - sz l k = ((l[k]).left.toNat : Nat) + 1 - sz l (l[k]).left.toNat := by omega
          rw [e1]; exact ih1
        · have e1 : (k : Int) + 1 - sz l k + (post l ((l[k]).left.toNat + 1) (l[k]).left.toNat).length = ((l[k]).right.toNat : Nat) + 1 - sz l (l[k]).right.toNat := by omega
          rw [e1]; exact ih2
        · have e1 : (k : Int) + 1 - sz l k + ((post l ((l[k]).left.toNat + 1) (l[k]).left.toNat ++ post l ((l[k]).right.toNat + 1) (l[k]).right.toNat).length : Nat) = k := by
            rw [List.length_append]; omega
          rw [e1]; exact Run_one _

theorem post_last {l : List Node} (hg : Good l) {k : Nat} (hk : k < l.length) : ∃ X, post l (k + 1) k = X ++ [(k : Int)] := by
  have hn : l[k]? = some l[k] := by simp [hk]
  rw [post_eq hg hn]
  split
  · split
    · exact ⟨_, rfl⟩
    · exact ⟨_, rfl⟩
  · exact ⟨[], rfl⟩

/-- What the walk comes by has what lies below it in the walk. -/
theorem post_mem {l : List Node} (hg : Good l) (hf : ∀ k n, l[k]? = some n → nodeFaultM n (k : Nat) = 0) : ∀ (m k j : Nat), k < m → k < l.length → (j : Int) ∈ post l (k + 1) k → ∃ A B, post l (k + 1) k = A ++ post l (j + 1) j ++ B
  | 0, _, _, h, _, _ => by omega
  | m + 1, k, j, h, hk, hj => by
    have hn : l[k]? = some l[k] := by simp [hk]
    obtain ⟨gl, gr⟩ := hg k hk
    have hp := post_eq hg hn
    by_cases e : j = k
    · subst e; exact ⟨[], [], by simp⟩
    cases c : ltI 2 (l[k]).kind
    · rw [c] at hp
      simp at hp
      rw [hp] at hj
      simp at hj; omega
    · have gl := gl c
      rw [c] at hp
      simp only [if_true] at hp
      rcases kinds (hf k _ hn) c with ⟨d, e⟩ | ⟨d, e⟩
      · rw [e] at hp
        simp only [Bool.false_eq_true, if_false] at hp
        rw [hp] at hj
        have hj2 : (j : Int) ∈ post l ((l[k]).left.toNat + 1) (l[k]).left.toNat := by
          rcases List.mem_append.1 hj with h | h
          · exact h
          · simp at h; omega
        obtain ⟨A, B, hab⟩ := post_mem hg hf m (l[k]).left.toNat j (by omega) (by omega) hj2
        rw [hp, hab]
        exact ⟨A, B ++ [(k : Int)], by simp⟩
      · have gr := gr e
        rw [e] at hp
        simp only [if_true] at hp
        rw [hp] at hj
        rcases List.mem_append.1 hj with hj | hj
        · rcases List.mem_append.1 hj with hj | hj
          · obtain ⟨A, B, hab⟩ := post_mem hg hf m (l[k]).left.toNat j (by omega) (by omega) hj
            rw [hp, hab]
            exact ⟨A, B ++ post l ((l[k]).right.toNat + 1) (l[k]).right.toNat ++ [(k : Int)], by simp⟩
          · obtain ⟨A, B, hab⟩ := post_mem hg hf m (l[k]).right.toNat j (by omega) (by omega) hj
            rw [hp, hab]
            exact ⟨post l ((l[k]).left.toNat + 1) (l[k]).left.toNat ++ A, B ++ [(k : Int)], by simp⟩
        · simp at hj; omega

theorem run_ok {l : List Node} (hg : Good l) (_hf : ∀ k n, l[k]? = some n → nodeFaultM n (k : Nat) = 0) {k : Nat} (hk : k < l.length) {a : Int} (h : Run a (post l (k + 1) k)) : okk l k := by
  intro n hn
  have hn' : l[k]? = some l[k] := by simp [hk]
  rw [hn'] at hn
  have hn := Option.some.inj hn
  subst hn
  obtain ⟨gl, gr⟩ := hg k hk
  have hp := post_eq hg hn'
  refine ⟨fun d => ?_, fun d e => ?_⟩
  · have c : ltI 2 (l[k]).kind = true := by simp [eqI] at d; simp [ltI, d]
    have e : inR (l[k]).kind 3 9 = false := by simp [eqI] at d; simp [inR, andB, leI, d]
    have gl := gl c
    rw [c, e] at hp
    simp only [Bool.false_eq_true, if_false, if_true] at hp
    rw [hp] at h
    obtain ⟨X, hX⟩ := post_last hg (k := (l[k]).left.toNat) (by omega)
    have h1 := Run_of (Run_right h)
    rw [hX] at h h1
    have h2 := Run_of (Run_right (Run_left h))
    simp at h1; omega
  · have c : ltI 2 (l[k]).kind = true := by simp [inR, andB, leI] at e; simp [ltI]; omega
    have gl := gl c
    have gr := gr e
    rw [c, e] at hp
    simp only [if_true] at hp
    rw [hp] at h
    obtain ⟨X, hX⟩ := post_last hg (k := (l[k]).left.toNat) (by omega)
    obtain ⟨Y, hY⟩ := post_last hg (k := (l[k]).right.toNat) (by omega)
    have hz : sz l (l[k]).right.toNat = (post l ((l[k]).right.toNat + 1) (l[k]).right.toNat).length := rfl
    have h1 := Run_of (Run_right h)
    have h3 := Run_left h
    have h4 := Run_right h3
    have h5 := Run_left h3
    rw [hY] at h4
    rw [hX] at h5
    have h6 := Run_of (Run_right h4)
    have h7 := Run_of (Run_right h5)
    rw [hX, hY] at h1
    rw [hX] at h6
    rw [hY] at hz
    simp at h1 h6 h7 hz; omega

/-- The sizes that the program reckons. -/
theorem walkM_is {l : List Node} (hg : Good l) (hf : ∀ k n, l[k]? = some n → nodeFaultM n (k : Nat) = 0) : ∀ (rest : List Node) (i : Nat) (sizes : List Int) (w : Bool), l.drop i = rest → sizes.length = i → (∀ k, k < i → szAt sizes k = sz l k) →
    (∀ k, k < l.length → szAt (walkM rest i sizes w).1 k = sz l k) ∧ ((walkM rest i sizes w).2 = false ↔ w = false ∧ ∀ k, i ≤ k → k < l.length → okk l k)
  | [], i, sizes, w, h, hs, hz => by
    have hge : l.length ≤ i := by simpa using h
    refine ⟨fun k hk => hz k (by omega), ?_⟩
    simp [walkM]
    intro _ k hk; omega
  | n :: rest, i, sizes, w, h, hs, hz => by
    have hi : i < l.length := by
      rcases Nat.lt_or_ge i l.length with h' | h'
      · exact h'
      · rw [List.drop_eq_nil_of_le h'] at h; simp at h
    rw [List.drop_eq_getElem_cons hi] at h
    obtain ⟨hc, hr⟩ := List.cons.inj h
    have hn : l[i]? = some n := by simp [hi, hc]
    have hfn := hf i n hn
    obtain ⟨gl, gr⟩ := hg i hi
    rw [hc] at gl gr
    have hp := post_eq hg hn
    have hsi : sz l i = (post l (i + 1) i).length := rfl
    have hz' : ∀ x : Int, 0 ≤ x → x < i → szAt sizes x = sz l x.toNat := fun x h0 h1 => by
      have := hz x.toNat (by omega)
      rw [← this]; congr 1; omega
    have hsize : sizeM n sizes = sz l i := by
      unfold sizeM
      cases c : ltI 2 n.kind
      · have c' : n.kind ≤ 2 := by simpa [ltI] using c
        rw [c] at hp; simp at hp
        rw [if_neg (by simp [eqI]; omega), if_neg (by simp [inR, andB, leI]; omega), hsi, hp]; rfl
      · have gl := gl c
        rw [c] at hp; simp only [if_true] at hp
        rcases kinds hfn c with ⟨d, e⟩ | ⟨d, e⟩
        · rw [e] at hp
          simp only [Bool.false_eq_true, if_false] at hp
          rw [if_pos d, hz' _ gl.1 gl.2, hsi, hp]
          simp [sz]; omega
        · have gr := gr e
          rw [e] at hp
          simp only [if_true] at hp
          rw [if_neg (by simp [d]), if_pos e, hz' _ gl.1 gl.2, hz' _ gr.1 gr.2, hsi, hp]
          simp [sz]; omega
    have hwrong : wrongM n i sizes w = false ↔ w = false ∧ okk l i := by
      unfold wrongM okk
      rw [hn]
      cases d : eqI n.kind 10
      · cases e : inR n.kind 3 9
        · simp [e, d]
        · have c : ltI 2 n.kind = true := by simp [inR, andB, leI] at e; simp [ltI]; omega
          have gr := gr e
          rw [hz' _ gr.1 gr.2]
          have d' : ¬ n.kind = 10 := by simpa [eqI] using d
          simp [e, d', orB, notB, eqI, and_assoc]
      · have d' : n.kind = 10 := by simpa [eqI] using d
        simp [d', orB, notB, eqI]
    have ih := walkM_is hg hf rest (i + 1) (sizes ++ [sizeM n sizes]) (wrongM n i sizes w) hr (by simp [hs]) (fun k hk => by
      rcases Nat.lt_or_ge k i with h' | h'
      · rw [← hz k h']
        unfold szAt
        simp [List.getElem?_append, hs, h']
      · have e : k = i := by omega
        subst e
        rw [← hsize]
        simp [szAt, hs])
    refine ⟨ih.1, ?_⟩
    rw [show walkM (n :: rest) i sizes w = walkM rest (i + 1) (sizes ++ [sizeM n sizes]) (wrongM n i sizes w) from rfl, ih.2, hwrong, and_assoc]
    refine and_congr_right fun _ => ⟨fun ⟨h1, h2⟩ k hk1 hk2 => ?_, fun h => ⟨h i (Nat.le_refl _) hi, fun k hk1 hk2 => h k (by omega) hk2⟩⟩
    rcases Nat.lt_or_ge i k with h' | h'
    · exact h2 k h' hk2
    · have e : k = i := by omega
      subst e; exact h1

theorem nodesM_at : ∀ {l : List Node} {i : Nat}, nodesM i l = 0 → ∀ (k : Nat) (n : Node), l[k]? = some n → nodeFaultM n (i + k : Nat) = 0
  | [], i, _, k, n, h => by simp at h
  | x :: l, i, hz, k, n, h => by
    unfold nodesM at hz
    split at hz
    · rename_i c; rw [hz] at c; simp [notB, eqI] at c
    · rename_i c
      cases k with
      | zero =>
        simp at h; subst h
        simpa [notB, eqI] using c
      | succ k =>
        have := nodesM_at hz k n (by simpa using h)
        have e : i + 1 + k = i + (k + 1) := by omega
        rw [← e]; exact this

theorem node_good {n : Node} {i : Nat} (h : nodeFaultM n i = 0) : (ltI 2 n.kind = true → 0 ≤ n.left ∧ n.left < i) ∧ (inR n.kind 3 9 = true → 0 ≤ n.right ∧ n.right < i) := by
  rw [← node_same] at h
  unfold l3NodeM at h
  split at h
  · simp at h
  · split at h
    · simp at h
    · split at h
      · simp at h
      · split at h
        · simp at h
        · rename_i c
          simp [orB, andB, notB, inR, leI] at c
          obtain ⟨c1, c2⟩ := c
          refine ⟨fun h => ?_, fun h => ?_⟩
          · simp [ltI] at h
            have := c1 h; omega
          · simp [inR, andB, leI] at h
            have := c2 h.1 h.2; omega

theorem expr_same (l : List Node) : expr4M l = exprM l := by
  unfold expr4M exprM
  by_cases hl : 1 ≤ l.length ∧ l.length ≤ 16
  · have e1 : orB (ltI l.length 1) (ltI 16 l.length) = false := by simp [orB, ltI]; omega
    have e2 : notB (inR l.length 1 16) = false := by simp [notB, inR, andB, leI]; omega
    rw [e1, e2, nodes_same]
    simp only [Bool.false_eq_true, if_false]
    by_cases hz : nodesM 0 l = 0
    · have hf : ∀ k n, l[k]? = some n → nodeFaultM n (k : Nat) = 0 := fun k n h => by
        have := nodesM_at hz k n h; simpa using this
      have hg : Good l := fun k hk => node_good (hf k l[k] (by simp [hk]))
      obtain ⟨w1, w2⟩ := walkM_is hg hf l 0 [] false rfl rfl (fun k hk => by omega)
      have hn1 : l.length - 1 < l.length := by omega
      have hf1 : post l l.length (l.length - 1) = post l (l.length - 1 + 1) (l.length - 1) := post_fuel hg _ _ _ (by omega) (by omega)
      have hsz : sz l (l.length - 1) = (post l (l.length - 1 + 1) (l.length - 1)).length := rfl
      have hq : ¬ (notB (eqI (nodesM 0 l) 0) = true) := by simp [notB, eqI, hz]
      rw [if_neg hq, if_neg hq]
      have ez : szAt (walkM l 0 [] false).1 ((l.length : Int) - 1) = sz l (l.length - 1) := by
        rw [← w1 _ hn1]; congr 1; omega
      rw [ez]
      by_cases ok : (∀ k, k < l.length → okk l k) ∧ sz l (l.length - 1) = l.length
      · obtain ⟨ok1, ok2⟩ := ok
        have hr := ok_run hg hf ok1 l.length (l.length - 1) hn1 hn1
        have ho : orderM l = post l (l.length - 1 + 1) (l.length - 1) := by
          unfold orderM
          rw [walk_long l _ _ _ (by rw [hf1]; simp; omega), hf1]; rfl
        have e3 : (walkM l 0 [] false).2 = false := w2.2 ⟨rfl, fun k _ h => ok1 k h⟩
        have e5 : (orderM l).length = l.length := by rw [ho]; omega
        have e4 : inOrder 0 (orderM l) = true := by
          rw [inOrder_iff, ho]
          have : (((l.length - 1 : Nat) : Int) + 1 - sz l (l.length - 1)) = ((0 : Nat) : Int) := by omega
          rw [← this]; exact hr
        simp [e3, e4, e5, ok2, orB, notB, eqI]
      · have e3 : orB (walkM l 0 [] false).2 (notB (eqI (sz l (l.length - 1)) (l.length : Int))) = true := by
          unfold orB notB eqI
          cases hw : (walkM l 0 [] false).2
          · simp
            intro h
            exact ok ⟨fun k hk => (w2.1 hw).2 k (by omega) hk, h⟩
          · rfl
        refine Eq.trans ?_ (if_pos e3).symm
        by_cases c : (orderM l).length = l.length
        rotate_left
        · rw [if_pos (by simp [notB, eqI]; omega)]
        · rw [if_neg (by simp [notB, eqI, c]), if_neg]
          intro hi
          have ho : orderM l = post l (l.length - 1 + 1) (l.length - 1) := by
            unfold orderM at c ⊢
            rw [walk_short l _ _ _ (by omega), hf1]; rfl
          rw [inOrder_iff, ho] at hi
          have hall : ∀ k, k < l.length → okk l k := fun k hk => by
            have hm : (k : Int) ∈ post l (l.length - 1 + 1) (l.length - 1) := by
              have hk2 : k < (post l (l.length - 1 + 1) (l.length - 1)).length := by rw [← ho]; omega
              have := hi k _ (List.getElem?_eq_getElem hk2)
              simp at this
              rw [← this]; exact List.getElem_mem _
            obtain ⟨A, B, hab⟩ := post_mem hg hf l.length (l.length - 1) k hn1 hn1 hm
            rw [hab] at hi
            exact run_ok hg hf hk (Run_right (Run_left hi))
          exact ok ⟨hall, by rw [hsz, ← ho, c]⟩
    · have : notB (eqI (nodesM 0 l) 0) = true := by simp [notB, eqI, hz]
      simp [this]
  · have e1 : orB (ltI l.length 1) (ltI 16 l.length) = true := by simp [orB, ltI]; omega
    have e2 : notB (inR l.length 1 16) = true := by simp [notB, inR, andB, leI]; omega
    simp [e1, e2]
end Go.TM.Lr

namespace Go.TM.Lr

theorem nodes_kind {l : List Node} (hz : nodesM 0 l = 0) : ∀ n, n ∈ l → 1 ≤ n.kind ∧ n.kind ≤ 10 := fun n hn => by
  obtain ⟨k, hk, he⟩ := List.getElem_of_mem hn
  have h := nodesM_at hz k n (by simp [hk, he])
  rw [← node_same] at h
  unfold l3NodeM at h
  split at h
  · simp at h
  · rename_i c
    simp [notB, inR, andB, leI] at c
    exact c

theorem part_want {k : Int} (h : k ≤ 10) : (partB k).1 = want4 k ∧ (partB k).2 = is4 k := by
  unfold partB want4 is4
  simp only [leI, eqI, orB]
  by_cases a : k ≤ 6
  · have b : ¬ k = 9 := by omega
    have c : ¬ k = 10 := by omega
    have d : ¬ 7 ≤ k := by omega
    simp [a, b, c, d]
  · by_cases b : k ≤ 8
    · have b' : ¬ k = 9 := by omega
      have c : ¬ k = 10 := by omega
      have d : 7 ≤ k := by omega
      simp [a, b, b', c, d]
    · have d : 7 ≤ k := by omega
      have e : k = 9 ∨ k = 10 := by omega
      simp [a, b, d]
      omega

theorem types_same : ∀ (l : List Node) (acc : List Int), (∀ n, n ∈ l → 1 ≤ n.kind ∧ n.kind ≤ 10) → types4M l acc = typesM l acc
  | [], _, _ => rfl
  | n :: l, acc, h => by
    obtain ⟨h1, h2⟩ := part_want (h n (by simp)).2
    have e : bad4 n acc = badT n acc := by
      unfold bad4 badT
      rw [h1]; rfl
    unfold types4M typesM
    rw [e, h2, types_same l _ fun n hn => h n (by simp [hn])]

theorem type_same (l : List Node) : type4M l = ((typeM l).2, (typeM l).1) := by
  unfold type4M typeM
  rw [expr_same]
  by_cases h : exprM l = 0
  · have hq : ¬ (notB (eqI (exprM l) 0) = true) := by simp [notB, eqI, h]
    have hz : nodesM 0 l = 0 := by
      unfold exprM at h
      split at h
      · simp at h
      · split at h
        · rename_i c; rw [h] at c; simp [notB, eqI] at c
        · rename_i c; simpa [notB, eqI] using c
    rw [if_neg hq, if_neg hq, types_same l [] (nodes_kind hz)]
    split <;> rfl
  · have hq : notB (eqI (exprM l) 0) = true := by simp [notB, eqI, h]
    rw [if_pos hq, if_pos hq]

theorem typed_same (l : List Node) (want : Int) : typed4M l want = typeFaultM l want := by
  unfold typed4M typeFaultM first2
  rw [type_same]
  simp only
  by_cases h0 : eqI l.length 0 = true
  · rw [if_pos h0, if_pos h0]
  rw [if_neg h0, if_neg h0]
  by_cases h : (typeM l).1 = 0
  · have hq : ¬ (notB (eqI (typeM l).1 0) = true) := by simp [notB, eqI, h]
    have hq2 : eqI (typeM l).1 0 = true := by simp [eqI, h]
    rw [if_neg hq, if_pos hq2]
  · have hq : notB (eqI (typeM l).1 0) = true := by simp [notB, eqI, h]
    have hq2 : ¬ eqI (typeM l).1 0 = true := by simp [eqI, h]
    rw [if_pos hq, if_neg hq2]

theorem name_same (s : ByteArray) : name4M s = nameM s := by
  unfold name4M nameM first2
  cases h1 : smalls s.data.toList <;> cases h2 : eqS s emp <;> simp [orB, notB, eqI]

/-! ### a step by itself -/
theorem line_low {l : List Step} {p : Int} {i : Nat} (hi : i ≤ l.length) (ha : Ahead l i) : ∀ (g : Nat) (at_ : Int), -1 ≤ at_ → at_ < i → at_ < p → lineM l p g at_ = false
  | 0, _, _, _, _ => rfl
  | g + 1, at_, h1, h2, h3 => by
    unfold lineM
    by_cases h : 0 ≤ at_
    · have hk : at_.toNat < l.length := by omega
      obtain ⟨a1, a2⟩ := ha at_.toNat hk (by omega)
      have hp : parOf l at_.toNat = (l[at_.toNat]).parent := by simp [parOf, hk]
      rw [if_pos (by simp [leI, h]), if_neg (by simp [eqI]; omega), hp]
      exact line_low hi ha g _ a1 (by omega) (by omega)
    · rw [if_neg (by simp [leI]; omega)]

theorem climb_line {l : List Step} {p : Int} {i : Nat} {list : List Int} (hi : i ≤ l.length) (ha : Ahead l i) (hl : list.length = i) (hq : ∀ k, k < i → list[k]? = some (parOf l k)) (hp0 : 0 ≤ p) :
    ∀ (f g : Nat) (at_ : Int), -1 ≤ at_ → at_ < i → at_ < f → at_ < g → (climbM list p f at_ = p ↔ lineM l p g at_ = true)
  | 0, g, at_, h1, h2, h3, h4 => by
    have e : at_ = -1 := by omega
    rw [line_low hi ha g at_ h1 h2 (by omega)]
    simp [climbM]; omega
  | f + 1, 0, at_, h1, h2, h3, h4 => by
    have e : at_ = -1 := by omega
    subst e
    have : ltI p (-1) = false := by simp [ltI]; omega
    simp [climbM, lineM, this]; omega
  | f + 1, g + 1, at_, h1, h2, h3, h4 => by
    rcases Int.lt_trichotomy at_ p with h | h | h
    · rw [line_low hi ha (g + 1) at_ h1 h2 h]
      have : ltI p at_ = false := by simp [ltI]; omega
      simp [climbM, this]; omega
    · subst h
      have : ltI at_ at_ = false := by simp [ltI]
      simp [climbM, lineM, this, leI, hp0, eqI]
    · have hk : at_.toNat < l.length := by omega
      obtain ⟨a1, a2⟩ := ha at_.toNat hk (by omega)
      have hp : parOf l at_.toNat = (l[at_.toNat]).parent := by simp [parOf, hk]
      have e1 : ltI p at_ = true := by simp [ltI]; omega
      have e2 : list.getD at_.toNat (-1) = parOf l at_.toNat := by rw [List.getD_eq_getElem?_getD, hq at_.toNat (by omega)]; rfl
      have e3 : leI 0 at_ = true := by simp [leI]; omega
      have e4 : eqI at_ p = false := by simp [eqI]; omega
      unfold climbM lineM
      rw [e1, e3, e4, e2]
      simp only [if_true, Bool.false_eq_true, if_false]
      exact climb_line hi ha hl hq hp0 f g _ (by omega) (by omega) (by omega) (by omega)

theorem deep_fuel {l : List Step} {i : Nat} (hi : i ≤ l.length) (ha : Ahead l i) : ∀ (f g : Nat) (at_ : Int), -1 ≤ at_ → at_ < i → at_ < f → at_ < g → deepM l f at_ = deepM l g at_
  | 0, g, at_, h1, h2, h3, h4 => by
    have e : at_ = -1 := by omega
    subst e
    cases g <;> simp [deepM, leI]
  | f + 1, 0, at_, h1, h2, h3, h4 => by
    have e : at_ = -1 := by omega
    subst e
    simp [deepM, leI]
  | f + 1, g + 1, at_, h1, h2, h3, h4 => by
    unfold deepM
    by_cases h : 0 ≤ at_
    · have hk : at_.toNat < l.length := by omega
      obtain ⟨a1, a2⟩ := ha at_.toNat hk (by omega)
      have hp : parOf l at_.toNat = (l[at_.toNat]).parent := by simp [parOf, hk]
      rw [deep_fuel hi ha f g (parOf l at_.toNat) (by omega) (by omega) (by omega) (by omega)]
    · rw [if_neg (by simp [leI]; omega), if_neg (by simp [leI]; omega)]

theorem argB_none (k : Int) : eqI (argB k).2 0 = notB (inR k 5 8) := by
  unfold argB
  by_cases h5 : k = 5
  · subst h5; rfl
  by_cases h6 : k = 6
  · subst h6; rfl
  by_cases h7 : k = 7
  · subst h7; rfl
  by_cases h8 : k = 8
  · subst h8; rfl
  have : ¬ (5 ≤ k ∧ k ≤ 8) := by omega
  simp [notB, inR, andB, eqI, leI, h5, h6, h7, h8]
  omega

theorem alien_bare (s : Step) : notB (bare4 s) = alien s := by
  unfold bare4 alien
  rw [argB_none]
  have hx : ltI 0 s.expr.length = notB (eqI s.expr.length 0) := by
    cases s.expr <;> simp [ltI, notB, eqI]; omega
  rw [hx]
  cases eqI s.kind 2 <;> cases eqS s.name emp <;> cases inR s.kind 5 8 <;> cases eqI s.arg 0 <;> cases eqI s.kind 7 <;> cases eqI s.expr.length 0 <;> rfl

/-- What the first steps have left behind: their parents, and how deep they lie. -/
structure Left (l : List Step) (i : Nat) (list deep : List Int) : Prop where
  le : i ≤ l.length
  ahead : Ahead l i
  tree : Tree list
  len : list.length = i
  dlen : deep.length = i
  at_ : ∀ k, k < i → list[k]? = some (parOf l k)
  deeps : ∀ k, k < i → deep[k]? = some (deepM l (k + 2) k)
  bd : ∀ d, d ∈ deep → 0 ≤ d ∧ d ≤ list.length

theorem next_deep {l : List Step} {i : Nat} {list deep : List Int} (h : Left l i list deep) (hi : i < l.length) (h1 : -1 ≤ parOf l i) (h2 : parOf l i < i) : nextDeep deep (parOf l i) = deepM l (i + 2) i := by
  have e : deepM l (i + 2) i = 1 + deepM l (i + 1) (parOf l i) := by
    conv => lhs; unfold deepM
    rw [if_pos (by simp [leI])]; simp
  rw [e]
  unfold nextDeep
  by_cases h0 : 0 ≤ parOf l i
  · have hk := h.deeps (parOf l i).toNat (by omega)
    rw [if_pos (by simp [leI, h0]), List.getD_eq_getElem?_getD, hk]
    have := deep_fuel h.le h.ahead ((parOf l i).toNat + 2) (i + 1) (parOf l i) h1 h2 (by omega) (by omega)
    have e2 : (((parOf l i).toNat : Nat) : Int) = parOf l i := by omega
    simp only [Option.getD_some, e2, this]; omega
  · rw [if_neg (by simp [leI]; omega)]
    have e : parOf l i = -1 := by omega
    rw [e]
    cases i <;> simp [deepM, leI]

theorem tail_same (s : Step) (_hk : inR s.kind 1 8 = true) (ha : alien s = false) (h2 : ¬ s.kind = 2) : tail4 s = stepB s := by
  unfold tail4 stepB ci
  rw [expr_same]
  by_cases h7 : s.kind = 7
  · have e : argM s.kind s.arg = inR s.arg 0 3 := by simp [argM, h7, eqI]
    have e2 : argB s.kind = (0, 3) := by simp [argB, h7, eqI]
    rw [e, e2]
    simp only [h7]
    cases inR s.arg 0 3 <;> simp [notB, eqI, first2]
  · have e : argM s.kind s.arg = inR s.arg (argB s.kind).1 (argB s.kind).2 := by
      by_cases h5 : s.kind = 5
      · simp [argM, argB, h5, eqI]
      by_cases h6 : s.kind = 6 ∨ s.kind = 8
      · rcases h6 with h6 | h6 <;> simp [argM, argB, h6, eqI]
      · have h6' : ¬ s.kind = 6 := by omega
        have h8' : ¬ s.kind = 8 := by omega
        have ha0 : s.arg = 0 := by
          unfold alien at ha
          rw [argB_none] at ha
          have : inR s.kind 5 8 = false := by simp [inR, andB, leI]; omega
          simp [this, orB, andB, notB, eqI] at ha
          exact ha.1.2
        simp [argM, argB, h5, h6', h8', h7, eqI, ha0, inR, andB, leI]
    rw [e]
    simp only [eqI]
    cases inR s.arg (argB s.kind).1 (argB s.kind).2 <;> simp [notB, h7, h2]

theorem one_same {l : List Step} {i : Nat} {list deep : List Int} (h : Left l i list deep) (hi : i < l.length) : one4M l i l[i] = stepM l[i] list deep := by
  have hp : parOf l i = (l[i]).parent := by simp [parOf, hi]
  unfold one4M stepM
  by_cases c1 : orB (notB (inR (l[i]).kind 1 8)) (notB (bare4 l[i])) = true
  · have c1' := c1
    rw [alien_bare] at c1'
    have e : stepA l[i] list deep = 1 := by simp [stepA, ci, c1', first2, eqI]
    rw [if_pos c1, e]; rfl
  rw [if_neg c1]
  rw [alien_bare] at c1
  have hk : inR (l[i]).kind 1 8 = true := by
    cases h : inR (l[i]).kind 1 8
    · rw [h] at c1; exact absurd rfl c1
    · rfl
  have ha : alien l[i] = false := by
    rw [hk] at c1
    simpa [orB, notB] using c1
  have eA : stepA l[i] list deep = (nextM list deep (l[i]).parent).1 := by simp [stepA, ci, hk, ha, orB, notB, first2, eqI]
  rw [eA]
  have ebad : nextBad list (l[i]).parent = par4 l[i] i := by unfold nextBad par4; rw [h.len]
  by_cases c2 : par4 l[i] i = true
  · have e : (nextM list deep (l[i]).parent).1 = 3 := by unfold nextM; rw [ebad, if_pos c2]
    rw [if_pos c2, e]; rfl
  rw [if_neg c2]
  have c2' : par4 l[i] i = false := by simpa using c2
  obtain ⟨p1, p2⟩ : -1 ≤ (l[i]).parent ∧ (l[i]).parent < i := by
    unfold par4 at c2'
    simp only [orB, andB, notB, inR, leI, ltI, eqI, Bool.or_eq_false_iff, Bool.and_eq_false_iff, Bool.not_eq_false', decide_eq_true_eq, decide_eq_false_iff_not, beq_eq_false_iff_ne, beq_iff_eq, Bool.and_eq_true] at c2'
    omega
  have ecl : notB (eqI (climbM list (l[i]).parent list.length (list.length - 1)) (l[i]).parent) = andB (ltI 0 (i : Int)) (notB (line4 l i)) := by
    rw [h.len]
    rcases Nat.eq_zero_or_pos i with h0 | h0
    · have e : (l[i]).parent = -1 := by omega
      rw [e, h0]; rfl
    · have p0 : 0 ≤ (l[i]).parent := by
        unfold par4 at c2'
        simp only [orB, andB, notB, inR, leI, ltI, eqI, Bool.or_eq_false_iff, Bool.and_eq_false_iff, Bool.not_eq_false', decide_eq_true_eq, decide_eq_false_iff_not, beq_eq_false_iff_ne, beq_iff_eq, Bool.and_eq_true] at c2'
        omega
      have := climb_line h.le h.ahead h.len h.at_ p0 i (i + 1) ((i : Int) - 1) (by omega) (by omega) (by omega) (by omega)
      have e1 : ltI 0 (i : Int) = true := by simp [ltI]; omega
      unfold line4
      rw [hp, e1]
      cases hl : lineM l (l[i]).parent (i + 1) ((i : Int) - 1)
      · rw [hl] at this
        simp at this
        simp [notB, andB, eqI, this]
      · rw [hl] at this
        simp at this
        simp [notB, andB, eqI, this]
  by_cases c3 : andB (ltI 0 (i : Int)) (notB (line4 l i)) = true
  · have e : (nextM list deep (l[i]).parent).1 = 1 := by unfold nextM; rw [ebad, if_neg c2, ecl, if_pos c3]
    rw [if_pos c3, e]; rfl
  rw [if_neg c3]
  have e : (nextM list deep (l[i]).parent).1 = 0 := by unfold nextM; rw [ebad, if_neg c2, ecl, if_neg c3]
  have hq : ¬ notB (eqI (0 : Int) 0) = true := by simp [notB, eqI]
  rw [e, if_neg hq]
  have ed := next_deep h hi (by omega) (by omega)
  rw [hp] at ed
  rw [ed]
  unfold deep4 ci
  by_cases c4 : ltI 7 (deepM l (i + 2) i) = true
  · rw [if_pos c4, if_pos c4]; rfl
  rw [if_neg c4, if_neg c4, if_neg hq]
  by_cases c5 : (l[i]).kind = 2
  · have hq5 : eqI (l[i]).kind 2 = true := by simp [eqI, c5]
    unfold stepB
    rw [if_pos hq5, if_pos hq5, name_same]
    by_cases c6 : nameM (l[i]).name = 0
    · rw [c6, if_neg hq]
      simp [tail4, c5, argM, eqI, notB]
    · rw [if_pos (by simp [notB, eqI, c6])]
  · rw [if_neg (by simp [eqI, c5])]
    exact tail_same _ hk ha c5

theorem left_next {l : List Step} {i : Nat} {list deep : List Int} (h : Left l i list deep) (hi : i < l.length) (hz : stepM l[i] list deep = 0) :
    (nextM list deep (l[i]).parent).2.1 = list ++ [(l[i]).parent] ∧ (nextM list deep (l[i]).parent).2.2 = deep ++ [nextDeep deep (l[i]).parent] ∧
    Left l (i + 1) (list ++ [(l[i]).parent]) (deep ++ [nextDeep deep (l[i]).parent]) := by
  obtain ⟨n1, n2, n3, n4, n5⟩ := step_next hz h.tree (by rw [h.dlen, h.len]) h.bd
  have hp : parOf l i = (l[i]).parent := by simp [parOf, hi]
  rw [h.len] at n4
  refine ⟨by rw [n1], by rw [n1], ?_⟩
  have ed := next_deep h hi (by omega) (by omega)
  rw [hp] at ed
  constructor
  · omega
  · intro k hk1 hk2
    rcases Nat.lt_or_ge k i with h' | h'
    · exact h.ahead k hk1 h'
    · have e : k = i := by omega
      subst e; exact ⟨n3, n4⟩
  · exact n2
  · simp [h.len]
  · simp [h.dlen]
  · intro k hk
    rcases Nat.lt_or_ge k i with h' | h'
    · rw [List.getElem?_append_left (by rw [h.len]; exact h')]; exact h.at_ k h'
    · have e : k = i := by omega
      subst e
      rw [List.getElem?_append_right (by rw [h.len]; omega)]; simp [h.len, hp]
  · intro k hk
    rcases Nat.lt_or_ge k i with h' | h'
    · rw [List.getElem?_append_left (by rw [h.dlen]; exact h')]; exact h.deeps k h'
    · have e : k = i := by omega
      subst e
      rw [List.getElem?_append_right (by rw [h.dlen]; omega)]; simp [h.dlen, ed]
  · exact n5

theorem ones_same {l : List Step} : ∀ (rest : List Step) (i : Nat) (list deep : List Int), l.drop i = rest → Left l i list deep →
    onesM l i rest = (procA rest list deep).1 ∧ (onesM l i rest = 0 → Ahead l l.length)
  | [], i, list, deep, h, hl => by
    have hge : l.length ≤ i := by simpa using h
    have e : i = l.length := by have := hl.le; omega
    subst e
    exact ⟨rfl, fun _ => hl.ahead⟩
  | s :: rest, i, list, deep, h, hl => by
    obtain ⟨hi, hc, hr⟩ := drop_cons h
    subst hc
    have e := one_same hl hi
    unfold onesM procA
    rw [e]
    by_cases hz : stepM l[i] list deep = 0
    · obtain ⟨e1, e2, hl2⟩ := left_next hl hi hz
      rw [if_pos (by simp [eqI, hz]), if_neg (by simp [notB, eqI, hz]), e1, e2]
      exact ones_same rest (i + 1) _ _ hr hl2
    · rw [if_neg (by simp [eqI, hz]), if_pos (by simp [notB, eqI, hz])]
      exact ⟨rfl, fun h => absurd h hz⟩

/-! ### the shape -/
theorem kids_same {p : Int} : ∀ (r : List Step) (i : Nat), (i = 0 → ∀ s, r[0]? = some s → s.parent ≠ p) → kidsM p i r = kids4M p i r
  | [], _, _ => rfl
  | s :: r, i, h => by
    unfold kidsM kids4M
    rw [kids_same r (i + 1) (fun h0 s' _ => absurd h0 (by omega))]
    by_cases h0 : i = 0
    · have := h h0 s (by simp)
      have e1 : eqI s.parent p = false := by simp [eqI, this]
      simp [e1, andB]
    · have e1 : ltI 0 (i : Int) = true := by simp [ltI]; omega
      simp [e1, andB]

theorem kids4_le (p : Int) : ∀ (r : List Step) (i : Nat), (kids4M p i r).length ≤ r.length
  | [], _ => Nat.le_refl _
  | s :: r, i => by
    have := kids4_le p r (i + 1)
    unfold kids4M
    split
    · simp; omega
    · simp; omega

theorem many_same {k n : Int} (_h0 : 0 ≤ n) (h : n ≤ 24) : inR n (kidB k).1 (kidB k).2 = manyM k n := by
  unfold kidB manyM
  by_cases h1 : k = 1
  · have : n ≤ 24 := h
    simp [h1, eqI, inR, andB, leI, this]
  by_cases h3 : k = 3
  · simp [h3, eqI, inR, andB, leI, orB, h]
  by_cases h4 : k = 4
  · simp [h4, eqI, inR, andB, leI, orB, h]
  have hx : ∀ m : Int, inR n m m = eqI n m := fun m => by
    unfold inR andB leI eqI
    by_cases a : n = m
    · simp [a]
    · have e : (n == m) = false := by simp [a]
      rw [e]
      have : ¬ (m ≤ n ∧ n ≤ m) := by omega
      simp
      intro h; omega
  by_cases h8 : k = 8
  · simp [h8, eqI, hx, orB]
  · have q1 : eqI k 1 = false := by simp [eqI, h1]
    have q3 : eqI k 3 = false := by simp [eqI, h3]
    have q4 : eqI k 4 = false := by simp [eqI, h4]
    have q8 : eqI k 8 = false := by simp [eqI, h8]
    simp [q1, q3, q4, q8, orB, hx]

theorem shape_one {l : List Step} (hl : l.length ≤ 24) (h0 : parOf l 0 = -1) (hp : ∀ k, 0 < k → k < l.length → 0 ≤ parOf l k) {i : Nat} (hi : i < l.length) : shapeOne l i l[i] = condFaultM l i := by
  have hk : ∀ p : Int, 0 ≤ p → kidsM p 0 l = kids4M p 0 l := fun p hp => kids_same l 0 fun _ s hs => by
    have : parOf l 0 = s.parent := by simp [parOf, hs]
    omega
  have hcond : hasCond l i = ltI 0 (l[i]).cond.length := by simp [hasCond, hi]
  have hco : condOf l i = (l[i]).cond := by simp [condOf, hi]
  have hkind : kindOf l i = (l[i]).kind := by simp [kindOf, hi]
  have hwant : wantsM l i = needsM l i := by
    unfold wantsM needsM
    rcases Nat.eq_zero_or_pos i with e | e
    · subst e
      rw [if_pos (by simp [orB, eqI]), if_pos (by rw [h0]; simp [orB, ltI])]
    · have h1 := hp i e hi
      have e1 : eqI (i : Int) 0 = false := by simp [eqI]; omega
      have e2 : ltI (parOf l i) 0 = false := by simp [ltI]; omega
      rw [e1, e2, hk _ h1]
      have : ∀ a b : Int, eqI a b = eqI b a := fun a b => by simp [eqI, Bool.beq_comm]
      rw [this (i : Int)]
  have hn := kids4_le i l 0
  unfold shapeOne condFaultM condCode kidsN
  rw [hcond, hco, hkind, hwant, hk i (by omega), many_same (by omega) (by omega), expr_same]
  cases manyM (l[i]).kind (kids4M i 0 l).length
  · simp [notB, first2, eqI, orB]
  · cases needsM l i <;> cases ltI 0 (l[i]).cond.length <;> simp [notB, first2, eqI, eqB, orB]

theorem shape_same {l : List Step} (hl : l.length ≤ 24) (h0 : parOf l 0 = -1) (hp : ∀ k, 0 < k → k < l.length → 0 ≤ parOf l k) : ∀ (rest : List Step) (i : Nat), l.drop i = rest → shapeM l i rest = procB l rest.length i
  | [], i, h => rfl
  | s :: rest, i, h => by
    obtain ⟨hi, hc, hr⟩ := drop_cons h
    subst hc
    have e := shape_one hl h0 hp hi
    unfold shapeM
    rw [e, List.length_cons]
    unfold procB
    rw [shape_same hl h0 hp rest (i + 1) hr]
    by_cases hz : condFaultM l i = 0
    · rw [if_pos (by simp [eqI, hz]), if_neg (by simp [notB, eqI, hz])]
    · rw [if_neg (by simp [eqI, hz]), if_pos (by simp [notB, eqI, hz])]

theorem typs_same : ∀ (l : List Step), typsM l = procC l
  | [] => rfl
  | s :: l => by
    unfold typsM procC typOne first2
    rw [typed_same, typed_same, typs_same l]
    by_cases h1 : typeFaultM s.cond 2 = 0
    · have q : eqI (typeFaultM s.cond 2) 0 = true := by simp [eqI, h1]
      rw [if_pos q]
      by_cases h2 : typeFaultM s.expr 1 = 0
      · rw [if_pos (by simp [eqI, h2]), if_neg (by simp [notB, eqI, h2])]
      · rw [if_neg (by simp [eqI, h2]), if_pos (by simp [notB, eqI, h2])]
    · have q : ¬ eqI (typeFaultM s.cond 2) 0 = true := by simp [eqI, h1]
      rw [if_neg q, if_neg q, if_pos (by simp [notB, eqI, h1])]

theorem one_parent0 {l : List Step} {s : Step} (h : one4M l 0 s = 0) : s.parent = -1 := by
  unfold one4M at h
  split at h
  · simp at h
  · split at h
    · simp at h
    · rename_i c
      simp [par4, orB, andB, notB, eqI, ltI] at c
      exact c
theorem one_parent {l : List Step} {i : Nat} {s : Step} (h : one4M l i s = 0) (hi : 0 < i) : 0 ≤ s.parent := by
  unfold one4M at h
  split at h
  · simp at h
  · split at h
    · simp at h
    · rename_i c
      have c : par4 s i = false := by simpa using c
      unfold par4 at c
      simp only [orB, andB, notB, inR, leI, ltI, eqI, Bool.or_eq_false_iff, Bool.and_eq_false_iff, Bool.not_eq_false', decide_eq_true_eq, decide_eq_false_iff_not, beq_eq_false_iff_ne, beq_iff_eq, Bool.and_eq_true] at c
      omega
theorem ones_at {l : List Step} : ∀ {r : List Step} {i : Nat}, onesM l i r = 0 → ∀ (k : Nat) (s : Step), r[k]? = some s → one4M l (i + k) s = 0
  | [], i, _, k, n, h => by simp at h
  | x :: r, i, hz, k, s, h => by
    unfold onesM at hz
    split at hz
    · rename_i hc
      cases k with
      | zero => simp at h; subst h; simpa [eqI] using hc
      | succ k =>
        have := ones_at hz k s (by simpa using h)
        have e : i + 1 + k = i + (k + 1) := by omega
        rw [← e]; exact this
    · rename_i hc; exact absurd (by simp [eqI, hz]) hc

theorem fault_same (l : List Step) : fault4M l = procM l := by
  unfold fault4M procM
  by_cases hl : 1 ≤ l.length ∧ l.length ≤ 24
  · have e1 : ¬ orB (ltI l.length 1) (ltI 24 l.length) = true := by simp [orB, ltI]; omega
    have e2 : ¬ notB (inR l.length 1 24) = true := by simp [notB, inR, andB, leI]; omega
    rw [if_neg e1, if_neg e2]
    obtain ⟨o1, o2⟩ := ones_same (l := l) l 0 [] [] rfl ⟨Nat.zero_le _, fun k _ h => by omega, fun k h => by simp at h, rfl, rfl, fun k h => by omega, fun k h => by omega, by simp⟩
    rw [o1] at o2 ⊢
    by_cases hz : (procA l [] []).1 = 0
    · have hz1 : onesM l 0 l = 0 := by rw [o1, hz]
      have ha := o2 hz
      have h0 : parOf l 0 = -1 := by
        have h := ones_at hz1 0 l[0] (by simp)
        have := one_parent0 h
        have e : l[0]? = some l[0] := by simp
        simp only [parOf, e, this]
      have hp : ∀ k, 0 < k → k < l.length → 0 ≤ parOf l k := fun k h1 h2 => by
        have h := ones_at hz1 k l[k] (by simp [h2])
        have := one_parent h (by omega)
        simp [parOf, h2, this]
      have hs := shape_same hl.2 h0 hp l 0 rfl
      have q : eqI (procA l [] []).1 0 = true := by simp [eqI, hz]
      have q2 : ¬ notB (eqI (procA l [] []).1 0) = true := by simp [notB, eqI, hz]
      rw [if_pos q, if_neg q2, hs, typs_same]
      by_cases hb : procB l l.length 0 = 0
      · rw [if_pos (by simp [eqI, hb]), if_neg (by simp [notB, eqI, hb])]
        by_cases hc : procC l = 0
        · rw [if_neg (by simp [notB, eqI, hc]), hc]
        · rw [if_pos (by simp [notB, eqI, hc])]
      · rw [if_neg (by simp [eqI, hb]), if_pos (by simp [notB, eqI, hb])]
    · rw [if_neg (by simp [eqI, hz]), if_pos (by simp [notB, eqI, hz])]
  · have e1 : orB (ltI l.length 1) (ltI 24 l.length) = true := by simp [orB, ltI]; omega
    have e2 : notB (inR l.length 1 24) = true := by simp [notB, inR, andB, leI]; omega
    rw [if_pos e1, if_pos e2]

end Go.TM.Lr

namespace Go.TM.Lr
open Go Go.TM Go.Proofs
set_option maxRecDepth 20000
attribute [local congr] gif_cg
attribute [local simp] footOf noClash clash upsets setsHit setHits layHits layMeets setsMeet evFeet

structure Chart where
  status : Int
  now : Int
  vars : List Int
  acts : List Int
  dues : List Int
structure Inst where
  proc : Int
  chart : Chart
structure Claim where
  inst : Int
  step : Int
  user : Int
structure Engine where
  procs : List (List Step)
  insts : List Inst
  now : Int
structure Desk where
  eng : Engine
  claims : List Claim

abbrev iS (l : List Int) : T := .sl 2 (iE l)
abbrev cT (c : Chart) : List T := [vI c.status, vI c.now, iS c.vars, iS c.acts, iS c.dues]
abbrev xT (x : Inst) : List T := [vI x.proc, vI x.chart.status, vI x.chart.now, iS x.chart.vars, iS x.chart.acts, iS x.chart.dues]
abbrev pT (s n : TypeId) (p : List Step) : List T := [.sl s (p.map (sT n))]
abbrev kT (c : Claim) : List T := [vI c.inst, vI c.step, vI c.user]

/-! ### small ones -/
theorem f_isPlace (n : Int) (m : Nat) (hm : m < 2 ^ 62) : fo 49 [A (vI n), A (vI m)] = some (R (vB (inR n 0 ((m : Int) - 1)))) := by
  have hw : IntKind.i64.wrap ((m : Int) - 1) = (m : Int) - 1 := by rw [wrapI] <;> omega
  refine orc_49 1 ?_
  simp (maxSteps := 1000000) +contextual -dsimp [Tryz.f49, f_inRange, hw]

theorem f_isUser (n : Int) : fo 50 [A (vI n)] = some (R (vB (inR n 1 9))) := by
  refine orc_50 1 ?_
  simp (maxSteps := 1000000) +contextual -dsimp [Tryz.f50, f_inRange]

theorem f_isTime (n : Int) : fo 71 [A (vI n)] = some (R (vB (inR n 0 1000000))) := by
  refine orc_71 1 ?_
  simp (maxSteps := 1000000) +contextual -dsimp [Tryz.f71, f_inRange]

theorem f_isNaN (n : Int) : fo 91 [A (vI n)] = some (R (vB false)) := by
  refine orc_91 1 ?_
  simp (maxSteps := 1000000) +contextual -dsimp [Tryz.f91, eqI_self, notB]

def cmpI (a b : Int) : Int := if ltI a b = true then -1 else if ltI b a = true then 1 else 0
theorem f_Compare (a b : Int) : fo 75 [A (vI a), A (vI b)] = some (R (vI (cmpI a b))) := by
  refine orc_75 1 ?_
  cases h : ltI a b <;> cases h2 : ltI b a <;>
  simp (maxSteps := 1000000) +contextual -dsimp [Tryz.f75, f_isNaN, h, h2, cmpI]

theorem f_Or (a b : Int) : fo 74 [A (.sl 3 [[vI a], [vI b]])] = some (R (vI (first2 a b))) := by
  have h0 : ltI 0 2 = true := rfl
  have h1 : ltI 1 2 = true := rfl
  have h2 : ltI 2 2 = false := rfl
  have w1 : IntKind.i64.wrap 1 = 1 := rfl
  have w2 : IntKind.i64.wrap 2 = 2 := rfl
  refine orc_74 4 ?_
  cases ha : eqI a 0
  · simp -dsimp [Tryz.f74, loop_eq, h0, ha, first2]
  · cases hb : eqI b 0
    · simp -dsimp [Tryz.f74, loop_eq, h0, h1, w1, ha, hb, first2]
    · simp -dsimp [Tryz.f74, loop_eq, h0, h1, h2, w1, w2, ha, hb, first2]
      simp [eqI] at hb; exact hb.symm

theorem f_compareClaims (a b : Claim) : fo 52 [A (.agg (kT a)), A (.agg (kT b))] = some (R (vI (first2 (cmpI a.inst b.inst) (cmpI a.step b.step)))) := by
  refine orc_52 1 ?_
  simp (maxSteps := 1000000) +contextual -dsimp [Tryz.f52, f_Compare, f_Or, List.set]

theorem f_VarsBad (x : Int) : fo 108 [A (vI x)] = some (R (vB (notB (inR x (-1000000) 1000000)))) := by
  refine orc_108 1 ?_
  simp (maxSteps := 1000000) +contextual -dsimp [Tryz.f108, f_inRange]

theorem f_small1 (x m : Int) : fo 109 [A (vI x), A (.ipt [vI m])] = some (R (vB (notB (inR x 0 m)))) := by
  refine orc_109 1 ?_
  simp (maxSteps := 1000000) +contextual -dsimp [Tryz.f109, f_inRange]

def idxM (p : Int → Bool) : Nat → List Int → Int
  | _, [] => -1
  | i, x :: r => if p x = true then i else idxM p (i + 1) r

theorem idxM_neg {p : Int → Bool} : ∀ {l : List Int} {i : Nat}, ltI (idxM p i l) 0 = true → idxM p i l = -1
  | [], i, _ => rfl
  | x :: l, i, h => by
    unfold idxM at h ⊢
    split at h
    · simp [ltI] at h; omega
    · rename_i c; rw [if_neg c]; exact idxM_neg h

def badV (x : Int) : Bool := notB (inR x (-1000000) 1000000)
def badS (m x : Int) : Bool := notB (inR x 0 m)
theorem f_badV (x : Int) : fo 108 [A (vI x)] = some (R (vB (badV x))) := f_VarsBad x
theorem f_badS (m x : Int) : fo 109 [A (vI x), A (.ipt [vI m])] = some (R (vB (badS m x))) := f_small1 x m

theorem loop138a (all : List Int) (hall : all.length < 2 ^ 62) : ∀ (rest : List Int) (i : Nat), all.drop i = rest →
    evLoop E (orc E) (138 : Nat) (rest.length + 1) (loopOf Tryz.f138 0) ⟨19, [(0, iS all), (1, .v (.func (.func (108 : Nat)) #[] #[])), (7, vI all.length), (8, vI i)], [], 2⟩ =
    (if ltI (idxM badV i rest) 0 = true then some (.exit 0, ⟨19, [(0, iS all), (1, .v (.func (.func (108 : Nat)) #[] #[])), (7, vI all.length), (8, vI (i + rest.length : Nat)), (9, vB false)], [], 2⟩)
     else some (.ret, ⟨19, [(4, vI (idxM badV i rest))], [], 2⟩))
  | [], i, h => by
    have hge : all.length ≤ i := by simpa using h
    have hlt : ltI (i : Int) (all.length : Int) = false := ltI_f (by omega)
    have h1 : ltI (-1) 0 = true := rfl
    rw [loop_eq]
    simp +contextual -dsimp [Tryz.f138, hlt, idxM, h1]
  | x :: rest, i, h => by
    obtain ⟨hi, hc, hr⟩ := drop_cons h
    have hlt : ltI (i : Int) (all.length : Int) = true := ltI_t (by omega)
    have hw : IntKind.i64.wrap ((i : Int) + 1) = ((i + 1 : Nat) : Int) := by rw [wrapI] <;> omega
    have he : i + 1 + rest.length = i + (rest.length + 1) := by omega
    have h0 : ltI (i : Int) 0 = false := ltI_f (by omega)
    have g := f_badV x
    cases c : badV x
    · have ih := loop138a all hall rest (i + 1) hr
      rw [he] at ih
      have hm : idxM badV i (x :: rest) = idxM badV (i + 1) rest := by simp [idxM, c]
      rw [hm]
      rw [c] at g
      refine evLoop_next ?_ (by simpa only [List.length_cons] using ih)
      simp (maxSteps := 1000000) +contextual -dsimp [Tryz.f138, hlt, hi, hc, hw, g]
    · have hm : idxM badV i (x :: rest) = i := by simp [idxM, c]
      rw [hm, h0, if_neg (by simp)]
      rw [c] at g
      refine evLoop_out ?_ (by simp)
      simp (maxSteps := 1000000) +contextual -dsimp [Tryz.f138, hlt, hi, hc, g]

theorem loop138b {m : Int} (all : List Int) (hall : all.length < 2 ^ 62) : ∀ (rest : List Int) (i : Nat), all.drop i = rest →
    evLoop E (orc E) (138 : Nat) (rest.length + 1) (loopOf Tryz.f138 0) ⟨19, [(0, iS all), (1, .clo (109 : Nat) [.ipt [vI m]]), (7, vI all.length), (8, vI i)], [], 2⟩ =
    (if ltI (idxM (badS m) i rest) 0 = true then some (.exit 0, ⟨19, [(0, iS all), (1, .clo (109 : Nat) [.ipt [vI m]]), (7, vI all.length), (8, vI (i + rest.length : Nat)), (9, vB false)], [], 2⟩)
     else some (.ret, ⟨19, [(4, vI (idxM (badS m) i rest))], [], 2⟩))
  | [], i, h => by
    have hge : all.length ≤ i := by simpa using h
    have hlt : ltI (i : Int) (all.length : Int) = false := ltI_f (by omega)
    have h1 : ltI (-1) 0 = true := rfl
    rw [loop_eq]
    simp +contextual -dsimp [Tryz.f138, hlt, idxM, h1]
  | x :: rest, i, h => by
    obtain ⟨hi, hc, hr⟩ := drop_cons h
    have hlt : ltI (i : Int) (all.length : Int) = true := ltI_t (by omega)
    have hw : IntKind.i64.wrap ((i : Int) + 1) = ((i + 1 : Nat) : Int) := by rw [wrapI] <;> omega
    have he : i + 1 + rest.length = i + (rest.length + 1) := by omega
    have h0 : ltI (i : Int) 0 = false := ltI_f (by omega)
    have g := f_badS m x
    cases c : (badS m) x
    · have ih := loop138b (m := m) all hall rest (i + 1) hr
      rw [he] at ih
      have hm : idxM (badS m) i (x :: rest) = idxM (badS m) (i + 1) rest := by simp [idxM, c]
      rw [hm]
      rw [c] at g
      refine evLoop_next ?_ (by simpa only [List.length_cons] using ih)
      simp (maxSteps := 1000000) +contextual -dsimp [Tryz.f138, hlt, hi, hc, hw, g]
    · have hm : idxM (badS m) i (x :: rest) = i := by simp [idxM, c]
      rw [hm, h0, if_neg (by simp)]
      rw [c] at g
      refine evLoop_out ?_ (by simp)
      simp (maxSteps := 1000000) +contextual -dsimp [Tryz.f138, hlt, hi, hc, g]


theorem f_IndexV (l : List Int) (hl : l.length < 2 ^ 62) : fo 138 [A (iS l), A (.v (.func (.func (108 : Nat)) #[] #[]))] = some (R (vI (idxM badV 0 l))) := by
  have hlp := loop138a l hl l 0 rfl
  refine orc_138 (l.length + 1) ?_
  simp -dsimp [Tryz.f138] at hlp
  cases c : ltI (idxM badV 0 l) 0
  · simp (maxSteps := 1000000) +contextual -dsimp [Tryz.f138, hlp, c]
  · have e : idxM badV 0 l = -1 := idxM_neg c
    rw [e] at hlp ⊢
    simp (maxSteps := 1000000) +contextual -dsimp [Tryz.f138, hlp]

theorem f_IndexS (m : Int) (l : List Int) (hl : l.length < 2 ^ 62) : fo 138 [A (iS l), A (.clo (109 : Nat) [.ipt [vI m]])] = some (R (vI (idxM (badS m) 0 l))) := by
  have hlp := loop138b (m := m) l hl l 0 rfl
  refine orc_138 (l.length + 1) ?_
  simp -dsimp [Tryz.f138] at hlp
  cases c : ltI (idxM (badS m) 0 l) 0
  · simp (maxSteps := 1000000) +contextual -dsimp [Tryz.f138, hlp, c]
  · have e : idxM (badS m) 0 l = -1 := idxM_neg c
    rw [e] at hlp ⊢
    simp (maxSteps := 1000000) +contextual -dsimp [Tryz.f138, hlp]

def hasB (p : Int → Bool) (l : List Int) : Bool := leI 0 (idxM p 0 l)

theorem f_ContV (l : List Int) (hl : l.length < 2 ^ 62) : fo 107 [A (iS l), A (.v (.func (.func (108 : Nat)) #[] #[]))] = some (R (vB (hasB badV l))) := by
  have g := f_IndexV l hl
  refine orc_107 1 ?_
  simp (maxSteps := 1000000) +contextual -dsimp [Tryz.f107, g, hasB]
theorem f_ContS (m : Int) (l : List Int) (hl : l.length < 2 ^ 62) : fo 107 [A (iS l), A (.clo (109 : Nat) [.ipt [vI m]])] = some (R (vB (hasB (badS m) l))) := by
  have g := f_IndexS m l hl
  refine orc_107 1 ?_
  simp (maxSteps := 1000000) +contextual -dsimp [Tryz.f107, g, hasB]

theorem f_areSmall (l : List Int) (hl : l.length < 2 ^ 62) (m : Int) : fo 89 [A (iS l), A (vI m)] = some (R (vB (notB (hasB (badS m) l)))) := by
  have g := f_ContS m l hl
  refine orc_89 1 ?_
  simp (maxSteps := 1000000) +contextual -dsimp [Tryz.f89, g]

def varsM (l : List Int) : Int := first2 (ci (notB (eqI l.length 4)) 2) (ci (hasB badV l) 3)
theorem f_VarsFault (l : List Int) (hl : l.length < 2 ^ 62) : fo 88 [A (iS l)] = some (R (vI (varsM l))) := by
  have g := f_ContV l hl
  refine orc_88 1 ?_
  simp (maxSteps := 1000000) +contextual -dsimp [Tryz.f88, g, f_ci, f_first2, varsM, List.set]

theorem f_first4 (a b c d : Int) : fo 33 [A (.sl 2 [[vI a], [vI b], [vI c], [vI d]])] = some (R (vI (first2 a (first2 b (first2 c d))))) := by
  have h0 : ltI 0 4 = true := rfl
  have h1 : ltI 1 4 = true := rfl
  have h2 : ltI 2 4 = true := rfl
  have h3 : ltI 3 4 = true := rfl
  have h4 : ltI 4 4 = false := rfl
  have w1 : IntKind.i64.wrap 1 = 1 := rfl
  have w2 : IntKind.i64.wrap 2 = 2 := rfl
  have w3 : IntKind.i64.wrap 3 = 3 := rfl
  have w4 : IntKind.i64.wrap 4 = 4 := rfl
  refine orc_33 6 ?_
  cases ha : eqI a 0
  · simp -dsimp [Tryz.f33, loop_eq, h0, ha, first2]
  · cases hb : eqI b 0
    · simp -dsimp [Tryz.f33, loop_eq, h0, h1, w1, ha, hb, first2]
    · cases hc : eqI c 0
      · simp -dsimp [Tryz.f33, loop_eq, h0, h1, h2, w1, w2, ha, hb, hc, first2]
      · cases hd : eqI d 0
        · simp -dsimp [Tryz.f33, loop_eq, h0, h1, h2, h3, w1, w2, w3, ha, hb, hc, hd, first2]
        · simp -dsimp [Tryz.f33, loop_eq, h0, h1, h2, h3, h4, w1, w2, w3, w4, ha, hb, hc, hd, first2]
          simp [eqI] at hd; exact hd.symm
end Go.TM.Lr

namespace Go.TM.Lr
open Go Go.TM Go.Proofs
set_option maxRecDepth 20000
attribute [local congr] gif_cg
attribute [local simp] footOf noClash clash upsets setsHit setHits layHits layMeets setsMeet evFeet

abbrev bT (l : List Step) (c : Chart) : List T := [.sl 99 (l.map (sT 201)), vI c.status, vI c.now, iS c.vars, iS c.acts, iS c.dues]

def cntM (acts : List Int) (act : Int) : List Int → Nat → Nat
  | [], n => n
  | k :: r, n => cntM acts act r (if eqI (szAt acts k) act = true then n + 1 else n)

theorem cnt_le (acts : List Int) (act : Int) : ∀ (l : List Int) (n : Nat), cntM acts act l n ≤ n + l.length
  | [], n => by simp [cntM]
  | k :: l, n => by
    unfold cntM
    rw [List.length_cons]
    split
    · have := cnt_le acts act l (n + 1); omega
    · have := cnt_le acts act l n; omega

theorem szAt_get {l : List Int} {k : Nat} (h : k < l.length) : szAt l (k : Int) = l[k] := by simp [szAt, h]

theorem loop139 (l : List Step) (c : Chart) (act : Int) (hb : c.acts.length < 2 ^ 62) (all : List Int) (hall : all.length ≤ 1000) (hk : ∀ k, k ∈ all → ∃ a : Nat, k = a ∧ a < c.acts.length) : ∀ (rest : List Int) (i n : Nat), all.drop i = rest → n ≤ i →
    evLoop E (orc E) (139 : Nat) (rest.length + 1) (loopOf Tryz.f139 0) ⟨30, [(0, .ipt (bT l c)), (2, vI act), (7, vI n), (10, iS all), (11, vI all.length), (12, vI i)], [], 2⟩ =
    some (.exit 0, ⟨30, [(0, .ipt (bT l c)), (2, vI act), (7, vI (cntM c.acts act rest n)), (10, iS all), (11, vI all.length), (12, vI (i + rest.length : Nat)), (13, vB false)], [], 2⟩)
  | [], i, n, h, hn => by
    have hge : all.length ≤ i := by simpa using h
    have hlt : ltI (i : Int) (all.length : Int) = false := ltI_f (by omega)
    rw [loop_eq]
    simp +contextual -dsimp [Tryz.f139, hlt, cntM]
  | x :: rest, i, n, h, hn => by
    obtain ⟨hi, hc, hr⟩ := drop_cons h
    obtain ⟨a, rfl, ha⟩ := hk x (by rw [← hc]; exact List.getElem_mem _)
    have hlt : ltI (i : Int) (all.length : Int) = true := ltI_t (by omega)
    have hw : IntKind.i64.wrap ((i : Int) + 1) = ((i + 1 : Nat) : Int) := by rw [wrapI] <;> omega
    have hw2 : IntKind.i64.wrap ((n : Int) + 1) = ((n + 1 : Nat) : Int) := by rw [wrapI] <;> omega
    have he : i + 1 + rest.length = i + (rest.length + 1) := by omega
    have hs := szAt_get ha
    cases q : eqI (c.acts[a]) act
    · have ih := loop139 l c act hb all hall hk rest (i + 1) n hr (by omega)
      rw [he] at ih
      have hm : cntM c.acts act ((a : Int) :: rest) n = cntM c.acts act rest n := by simp [cntM, hs, q]
      rw [hm]
      refine evLoop_next ?_ (by simpa only [List.length_cons] using ih)
      simp (maxSteps := 1000000) +contextual -dsimp [Tryz.f139, hlt, hi, hc, hw, ha, q]
    · have ih := loop139 l c act hb all hall hk rest (i + 1) (n + 1) hr (by omega)
      rw [he] at ih
      have hm : cntM c.acts act ((a : Int) :: rest) n = cntM c.acts act rest (n + 1) := by simp [cntM, hs, q]
      rw [hm]
      refine evLoop_next ?_ (by simpa only [List.length_cons] using ih)
      simp (maxSteps := 1000000) +contextual -dsimp [Tryz.f139, hlt, hi, hc, hw, hw2, ha, q]

theorem f_count (l : List Step) (c : Chart) (act : Int) (hb : c.acts.length < 2 ^ 62) (all : List Int) (hall : all.length ≤ 1000) (hk : ∀ k, k ∈ all → ∃ a : Nat, k = a ∧ a < c.acts.length) :
    fo 139 [A (.ipt (bT l c)), A (iS all), A (vI act)] = some (R (vI (cntM c.acts act all 0 : Nat))) := by
  have hlp := loop139 l c act hb all hall hk all 0 0 rfl (Nat.le_refl _)
  refine orc_139 (all.length + 1) ?_
  simp -dsimp [Tryz.f139] at hlp
  simp (maxSteps := 1000000) +contextual -dsimp [Tryz.f139, hlp]
end Go.TM.Lr
