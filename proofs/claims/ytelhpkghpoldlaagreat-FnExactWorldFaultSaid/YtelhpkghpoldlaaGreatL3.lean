import Derived.Test.YtelhpkghpoldlaaGreatL2

namespace Go.TM.Lr
open Go Go.TM Go.Proofs
set_option maxRecDepth 20000
attribute [local congr] gif_cg
attribute [local simp] footOf noClash clash upsets setsHit setHits layHits layMeets setsMeet evFeet

theorem kids_at {p : Int} : ∀ {l : List Step} {i : Nat} {k : Int}, k ∈ kidsM p i l → ∃ a : Nat, k = a ∧ a < i + l.length
  | [], i, k, h => by simp [kidsM] at h
  | x :: l, i, k, h => by
    unfold kidsM at h
    have tl : k ∈ kidsM p (i + 1) l → ∃ a : Nat, k = a ∧ a < i + (x :: l).length := fun h => by
      obtain ⟨a, h1, h2⟩ := kids_at h
      exact ⟨a, h1, by simp; omega⟩
    split at h
    · rcases List.mem_cons.1 h with rfl | h
      · exact ⟨i, rfl, by simp⟩
      · exact tl h
    · exact tl h
theorem kids_few (p : Int) : ∀ (l : List Step) (i : Nat), (kidsM p i l).length ≤ l.length
  | [], _ => Nat.le_refl _
  | s :: l, i => by
    have := kids_few p l (i + 1)
    unfold kidsM
    split
    · simp; omega
    · simp; omega

def fitsK (k : Int) (c : Chart) (on over : Int) (list : List Int) (due : Bool) : Bool :=
  if orB (eqI k 1) (eqI k 3) = true then (if notB (eqI on 1) = true then false else eqB false due)
  else if eqI k 4 = true then (if orB (eqI on 0) (notB (eqI (on + over) list.length)) = true then false else eqB false due)
  else if eqI k 8 = true then (if notB (eqI on 1) = true then false else eqB (eqI (szAt c.acts (szAt list 0)) 1) due)
  else if eqI k 6 = true then eqB true due
  else if eqI k 7 = true then false
  else eqB false due

def fitsM (l : List Step) (c : Chart) (i : Nat) : Bool :=
  if andB (eqI (szAt c.acts i) 2) (orB (eqI i 0) (notB (eqI (kindOf l (parOf l i)) 4))) = true then false
  else if notB (eqI (szAt c.acts i) 1) = true then andB (eqI ((cntM c.acts 1 (kidsM i 0 l) 0 : Nat) + (cntM c.acts 2 (kidsM i 0 l) 0 : Nat)) 0) (eqI (szAt c.dues i) 0)
  else fitsK (kindOf l i) c (cntM c.acts 1 (kidsM i 0 l) 0 : Nat) (cntM c.acts 2 (kidsM i 0 l) 0 : Nat) (kidsM i 0 l) (notB (eqI (szAt c.dues i) 0))

set_option maxHeartbeats 4000000 in
theorem f_fits (l : List Step) (hl : l.length ≤ 24) (c : Chart) (ha : c.acts.length = l.length) (hd : c.dues.length = l.length) (i : Nat) (hi : i < l.length) (hp : 0 < i → ∃ a : Nat, (l[i]).parent = a ∧ a < l.length) :
    fo 110 [A (.ipt (bT l c)), A (vI i)] = some (R (vB (fitsM l c i))) := by
  have g1 := f_kids l (by omega) i
  have hk : ∀ k, k ∈ kidsM i 0 l → ∃ a : Nat, k = a ∧ a < c.acts.length := fun k h => by
    obtain ⟨a, h1, h2⟩ := kids_at h
    exact ⟨a, h1, by omega⟩
  have hfew := kids_few i l 0
  have g2 := f_count l c 1 (by omega) (kidsM i 0 l) (by omega) hk
  have g3 := f_count l c 2 (by omega) (kidsM i 0 l) (by omega) hk
  have hia : i < c.acts.length := by omega
  have hid : i < c.dues.length := by omega
  have hsa : szAt c.acts (i : Int) = c.acts[i] := szAt_get hia
  have hsd : szAt c.dues (i : Int) = c.dues[i] := szAt_get hid
  have hki : kindOf l i = (l[i]).kind := by simp [kindOf, hi]
  have hpi : parOf l i = (l[i]).parent := by simp [parOf, hi]
  have b1 := cnt_le c.acts 1 (kidsM i 0 l) 0
  have b2 := cnt_le c.acts 2 (kidsM i 0 l) 0
  have hse := seal4_iE (kidsM i 0 l)
  unfold fitsM
  rw [hsa, hsd, hki, hpi]
  have hl0 : cntM c.acts 1 (kidsM i 0 l) 0 = 1 → 0 < (kidsM i 0 l).length := fun h => by omega
  generalize hon : cntM c.acts 1 (kidsM i 0 l) 0 = on at *
  generalize hov : cntM c.acts 2 (kidsM i 0 l) 0 = ov at *
  have hw : IntKind.i64.wrap ((on : Int) + ov) = (on : Int) + ov := by rw [wrapI] <;> omega
  generalize kidsM i 0 l = ks at *
  have hlks : ks.length ≤ 24 := by omega
  have he : eqI (i : Int) 0 = true ∨ (eqI (i : Int) 0 = false ∧ ∃ (a : Nat) (h : a < l.length), (l[i]).parent = a ∧ kindOf l (l[i]).parent = l[a].kind) := by
    rcases Nat.eq_zero_or_pos i with h | h
    · left; simp [h, eqI]
    · right
      obtain ⟨a, h1, h2⟩ := hp h
      exact ⟨by simp [eqI]; omega, a, h2, h1, by rw [h1]; simp [kindOf, h2]⟩
  refine orc_110 1 ?_
  cases q0 : eqI c.acts[i] 2
  · cases q2 : eqI c.acts[i] 1
    · simp (maxSteps := 1000000) +contextual -dsimp [Tryz.f110, g1, g2, g3, hia, hid, hi, hse, q0, q2, hw, List.set]
    · cases e1 : eqI (l[i].kind) 1
      · cases e3 : eqI (l[i].kind) 3
        · cases e4 : eqI (l[i].kind) 4
          · cases e8 : eqI (l[i].kind) 8
            · cases e6 : eqI (l[i].kind) 6
              · cases e7 : eqI (l[i].kind) 7
                · simp (maxSteps := 1000000) +contextual -dsimp [Tryz.f110, g1, g2, g3, hia, hid, hi, hse, q0, q2, List.set, fitsK, e1, e3, e4, e8, e6, e7]
                · simp (maxSteps := 1000000) +contextual -dsimp [Tryz.f110, g1, g2, g3, hia, hi, hse, q0, q2, List.set, fitsK, e1, e3, e4, e8, e6, e7]
              · simp (maxSteps := 1000000) +contextual -dsimp [Tryz.f110, g1, g2, g3, hia, hid, hi, hse, q0, q2, List.set, fitsK, e1, e3, e4, e8, e6]
            · cases o1 : eqI (on : Int) 1
              · simp (maxSteps := 1000000) +contextual -dsimp [Tryz.f110, g1, g2, g3, hia, hi, hse, q0, q2, List.set, fitsK, e1, e3, e4, e8, o1]
              · have hpos : 0 < ks.length := hl0 (by simp [eqI] at o1; omega)
                obtain ⟨a, ka, hla⟩ := hk (ks[0]) (List.getElem_mem _)
                have hs0 : szAt ks 0 = ks[0] := szAt_get hpos
                have hs1 : szAt c.acts (a : Int) = c.acts[a] := szAt_get hla
                simp (maxSteps := 1000000) +contextual -dsimp [Tryz.f110, g1, g2, g3, hia, hid, hi, hse, q0, q2, List.set, fitsK, e1, e3, e4, e8, o1, hpos, hs0, ka, hs1, hla]
          · cases o1 : eqI (on : Int) 0
            · cases o2 : eqI ((on : Int) + ov) ks.length
              · simp (maxSteps := 1000000) +contextual -dsimp [Tryz.f110, g1, g2, g3, hia, hi, hse, q0, q2, hw, List.set, fitsK, e1, e3, e4, o1, o2]
              · simp (maxSteps := 1000000) +contextual -dsimp [Tryz.f110, g1, g2, g3, hia, hid, hi, hse, q0, q2, hw, List.set, fitsK, e1, e3, e4, o1, o2]
            · simp (maxSteps := 1000000) +contextual -dsimp [Tryz.f110, g1, g2, g3, hia, hi, hse, q0, q2, List.set, fitsK, e1, e3, e4, o1]
        · cases o1 : eqI (on : Int) 1
          · simp (maxSteps := 1000000) +contextual -dsimp [Tryz.f110, g1, g2, g3, hia, hi, hse, q0, q2, List.set, fitsK, e1, e3, o1]
          · simp (maxSteps := 1000000) +contextual -dsimp [Tryz.f110, g1, g2, g3, hia, hid, hi, hse, q0, q2, List.set, fitsK, e1, e3, o1]
      · cases o1 : eqI (on : Int) 1
        · simp (maxSteps := 1000000) +contextual -dsimp [Tryz.f110, g1, g2, g3, hia, hi, hse, q0, q2, List.set, fitsK, e1, o1]
        · simp (maxSteps := 1000000) +contextual -dsimp [Tryz.f110, g1, g2, g3, hia, hid, hi, hse, q0, q2, List.set, fitsK, e1, o1]
  · have q2 : eqI c.acts[i] 1 = false := by simp [eqI] at q0 ⊢; omega
    rcases he with he | ⟨he, a, p2, p1, p3⟩
    · simp (maxSteps := 1000000) +contextual -dsimp [Tryz.f110, g1, g2, g3, hia, hi, hse, he, q0, List.set]
    · rw [p3]
      cases q3 : eqI (l[a].kind) 4
      · simp (maxSteps := 1000000) +contextual -dsimp [Tryz.f110, g1, g2, g3, hia, hi, hse, he, p1, p2, q0, q3, List.set]
      · simp (maxSteps := 1000000) +contextual -dsimp [Tryz.f110, g1, g2, g3, hia, hid, hi, hse, he, p1, p2, q0, q2, q3, hw, List.set]
end Go.TM.Lr

namespace Go.TM.Lr
open Go Go.TM Go.Proofs
set_option maxRecDepth 20000
attribute [local congr] gif_cg
attribute [local simp] footOf noClash clash upsets setsHit setHits layHits layMeets setsMeet evFeet

theorem procB_at (l : List Step) : ∀ (f i : Nat), i + f = l.length → procB l f i = 0 → ∀ k, i ≤ k → k < l.length → condFaultM l k = 0
  | 0, i, h, _, k, h1, h2 => by omega
  | f + 1, i, h, hz, k, h1, h2 => by
    unfold procB at hz
    split at hz
    · rename_i c; rw [hz] at c; simp [notB, eqI] at c
    · rename_i c
      rcases Nat.lt_or_ge i k with h' | h'
      · exact procB_at l f (i + 1) (by omega) hz k h' h2
      · have e : k = i := by omega
        subst e; simpa [notB, eqI] using c

structure ProcOk (l : List Step) : Prop where
  pos : 1 ≤ l.length
  le : l.length ≤ 24
  par : ∀ (k : Nat) (h : k < l.length), 0 < k → ∃ a : Nat, (l[k]).parent = a ∧ a < k
  par0 : ∀ (h : 0 < l.length), (l[0]).parent = -1
  cond : ∀ k, k < l.length → condFaultM l k = 0

theorem proc_ok {l : List Step} (h : procM l = 0) : ProcOk l := by
  unfold procM at h
  split at h
  · simp at h
  · rename_i c1
    have hl : 1 ≤ l.length ∧ l.length ≤ 24 := by simp [notB, inR, andB, leI] at c1; omega
    split at h
    · rename_i c2; rw [h] at c2; simp [notB, eqI] at c2
    · rename_i c2
      have c2 : (procA l [] []).1 = 0 := by simpa [notB, eqI] using c2
      split at h
      · rename_i c3; rw [h] at c3; simp [notB, eqI] at c3
      · rename_i c3
        have c3 : procB l l.length 0 = 0 := by simpa [notB, eqI] using c3
        have hpar := procA_par (rest := l) (list := []) (deep := []) (fun k h => by simp at h) rfl (by simp) c2
        refine ⟨hl.1, hl.2, fun k hk h0 => ?_, fun h0 => ?_, fun k hk => procB_at l l.length 0 (by omega) c3 k (Nat.zero_le _) hk⟩
        · have := hpar k l[k] (by simp [hk])
          simp at this
          obtain ⟨a, ha⟩ := Int.eq_ofNat_of_zero_le (this.2.2 h0)
          exact ⟨a, ha, by omega⟩
        · have := hpar 0 l[0] (by simp [h0])
          simp at this
          omega

/-! ### isOrdered, ChartFault -/
def allFit (l : List Step) (c : Chart) : Nat → Nat → Bool
  | 0, _ => true
  | f + 1, i => if fitsM l c i = true then allFit l c f (i + 1) else false

theorem loop90 (l : List Step) (hl : l.length ≤ 24) (c : Chart) (ha : c.acts.length = l.length) (hd : c.dues.length = l.length) (hp : ∀ (i : Nat) (h : i < l.length), 0 < i → ∃ a : Nat, (l[i]).parent = a ∧ a < l.length) : ∀ (f i : Nat), i + f = l.length →
    evLoop E (orc E) (90 : Nat) (f + 1) (loopOf Tryz.f90 0) ⟨45, [(0, .ipt (bT l c)), (28, vI l.length), (29, vI i)], [], 2⟩ =
    (if allFit l c f i = true then some (.exit 0, ⟨45, [(0, .ipt (bT l c)), (28, vI l.length), (29, vI l.length), (30, vB false)], [], 2⟩)
     else some (.ret, ⟨45, [(2, vB false)], [], 2⟩))
  | 0, i, h => by
    have e : i = l.length := by omega
    subst e
    have hlt : ltI (l.length : Int) (l.length : Int) = false := ltI_f (by omega)
    rw [loop_eq]
    simp +contextual -dsimp [Tryz.f90, hlt, allFit]
  | f + 1, i, h => by
    have hi : i < l.length := by omega
    have hlt : ltI (i : Int) (l.length : Int) = true := ltI_t (by omega)
    have hw : IntKind.i64.wrap ((i : Int) + 1) = ((i + 1 : Nat) : Int) := by rw [wrapI] <;> omega
    have g := f_fits l hl c ha hd i hi (hp i hi)
    cases q : fitsM l c i
    · have hm : allFit l c (f + 1) i = false := by simp [allFit, q]
      rw [hm, if_neg (by simp)]
      refine evLoop_out ?_ (by simp)
      simp (maxSteps := 1000000) +contextual -dsimp [Tryz.f90, hlt, g, q]
    · have ih := loop90 l hl c ha hd hp f (i + 1) (by omega)
      have hm : allFit l c (f + 1) i = allFit l c f (i + 1) := by simp [allFit, q]
      rw [hm]
      refine evLoop_next ?_ ih
      simp (maxSteps := 1000000) +contextual -dsimp [Tryz.f90, hlt, g, q, hw]

def smS (m : Int) (l : List Int) : Bool := notB (hasB (badS m) l)
theorem f_smS (l : List Int) (hl : l.length < 2 ^ 62) (m : Int) : fo 89 [A (iS l), A (vI m)] = some (R (vB (smS m l))) := f_areSmall l hl m

def ordM (l : List Step) (c : Chart) : Bool :=
  if notB (eqI c.status 1) = true then andB (smS 0 c.acts) (smS 0 c.dues)
  else if allFit l c l.length 0 = true then eqI (szAt c.acts 0) 1 else false

theorem f_isOrdered (l : List Step) (hl0 : 0 < l.length) (hl : l.length ≤ 24) (c : Chart) (ha : c.acts.length = l.length) (hd : c.dues.length = l.length) (hp : ∀ (i : Nat) (h : i < l.length), 0 < i → ∃ a : Nat, (l[i]).parent = a ∧ a < l.length) :
    fo 90 [A (.ipt (bT l c))] = some (R (vB (ordM l c))) := by
  have g1 := f_smS c.acts (by omega) 0
  have g2 := f_smS c.dues (by omega) 0
  have hlp := loop90 l hl c ha hd hp l.length 0 (by omega)
  have ha0 : 0 < c.acts.length := by omega
  have hs : szAt c.acts 0 = c.acts[0] := szAt_get ha0
  unfold ordM
  refine orc_90 (l.length + 1) ?_
  simp -dsimp [Tryz.f90] at hlp
  cases q1 : eqI c.status 1
  · simp (maxSteps := 1000000) +contextual -dsimp [Tryz.f90, q1, g1, g2]
  · cases q2 : allFit l c l.length 0
    · rw [q2] at hlp
      simp (maxSteps := 1000000) +contextual -dsimp [Tryz.f90, q1, hlp]
    · rw [q2] at hlp
      simp (maxSteps := 1000000) +contextual -dsimp [Tryz.f90, q1, hlp, ha0, hs]

structure FitC (c : Chart) : Prop where
  vars : c.vars.length < 2 ^ 62
  acts : c.acts.length < 2 ^ 62
  dues : c.dues.length < 2 ^ 62

def chartA (l : List Step) (c : Chart) : Int :=
  first2 (procM l) (first2 (ci (orB (notB (inR c.status 1 3)) (notB (inR c.now 0 1000000))) 3) (first2 (varsM c.vars) (ci (orB (notB (eqI c.acts.length l.length)) (notB (eqI c.dues.length l.length))) 2)))
def chartM (l : List Step) (c : Chart) : Int :=
  if notB (eqI (chartA l c) 0) = true then chartA l c
  else if orB (notB (smS 2 c.acts)) (notB (smS (c.now + 99) c.dues)) = true then 3
  else ci (notB (ordM l c)) 1

theorem ci_zero {b : Bool} {k : Int} (hk : k ≠ 0) (h : ci b k = 0) : b = false := by
  cases b
  · rfl
  · exact absurd h (by simpa [ci] using hk)

theorem chartA_zero {l : List Step} {c : Chart} (h : chartA l c = 0) : procM l = 0 ∧ (1 ≤ c.status ∧ c.status ≤ 3) ∧ (0 ≤ c.now ∧ c.now ≤ 1000000) ∧ varsM c.vars = 0 ∧ c.acts.length = l.length ∧ c.dues.length = l.length := by
  unfold chartA at h
  obtain ⟨h1, h2⟩ := first2_zero h
  obtain ⟨h3, h4⟩ := first2_zero h2
  obtain ⟨h5, h6⟩ := first2_zero h4
  have h3 := ci_zero (by omega) h3
  have h6 := ci_zero (by omega) h6
  simp [orB, notB, inR, andB, leI, eqI] at h3 h6
  exact ⟨h1, by omega, by omega, h5, by omega, by omega⟩

set_option maxHeartbeats 4000000 in
theorem f_ChartFault (l : List Step) (hl : l.length < 2 ^ 62) (hf : ∀ s, s ∈ l → FitS s) (c : Chart) (hc : FitC c) :
    fo 72 [A (.sl 99 (l.map (sT 201))), A (.agg (cT c))] = some (R (vI (chartM l c))) := by
  have g1 := f_ProcFault l hl hf
  have g2 := f_VarsFault c.vars hc.vars
  have g3 := f_first4 (procM l) (ci (orB (notB (inR c.status 1 3)) (notB (inR c.now 0 1000000))) 3) (varsM c.vars) (ci (orB (notB (eqI c.acts.length l.length)) (notB (eqI c.dues.length l.length))) 2)
  have g4 := f_smS c.acts hc.acts 2
  have g5 := f_smS c.dues hc.dues (c.now + 99)
  refine orc_72 1 ?_
  cases q1 : eqI (chartA l c) 0
  · have q1' := q1
    unfold chartA at q1'
    simp (maxSteps := 1000000) +contextual -dsimp [Tryz.f72, g1, g2, g3, f_inRange, f_isTime, f_ci, q1', chartM, chartA, List.set]
  · have e0 : chartA l c = 0 := by simpa [eqI] using q1
    obtain ⟨z1, z2, z3, z4, z5, z6⟩ := chartA_zero e0
    have ok := proc_ok z1
    have hw : IntKind.i64.wrap (c.now + 99) = c.now + 99 := by rw [wrapI] <;> omega
    have g6 := f_isOrdered l (by have := ok.pos; omega) ok.le c z5 z6 (fun i hi h0 => by
      obtain ⟨a, h1, h2⟩ := ok.par i hi h0
      exact ⟨a, h1, by omega⟩)
    have e0' := e0
    unfold chartA at e0'
    cases q2 : smS 2 c.acts
    · simp (maxSteps := 1000000) +contextual -dsimp [Tryz.f72, g1, g2, g3, g4, f_inRange, f_isTime, f_ci, e0', e0, eqI_self, q2, chartM, List.set]
    · cases q3 : smS (c.now + 99) c.dues
      · simp (maxSteps := 1000000) +contextual -dsimp [Tryz.f72, g1, g2, g3, g4, g5, f_inRange, f_isTime, f_ci, e0', e0, eqI_self, q2, q3, hw, chartM, List.set]
      · simp (maxSteps := 1000000) +contextual -dsimp [Tryz.f72, g1, g2, g3, g4, g5, g6, f_inRange, f_isTime, f_ci, e0', e0, eqI_self, q2, q3, hw, chartM, List.set]
end Go.TM.Lr

namespace Go.TM.Lr
open Go Go.TM Go.Proofs
set_option maxRecDepth 20000
attribute [local congr] gif_cg
attribute [local simp] footOf noClash clash upsets setsHit setHits layHits layMeets setsMeet evFeet

abbrev eT (e : Engine) : List T := [.sl 71 (e.procs.map (pT 99 201)), .sl 67 (e.insts.map xT), vI e.now]

theorem f_steps (e : Engine) (x : Inst) (a : Nat) (hx : x.proc = a) (ha : a < e.procs.length) : fo 27 [A (.agg (eT e)), A (.agg (xT x))] = some ⟨.sl 99 ((e.procs[a]).map (sT 201)), [], false⟩ := by
  refine orc_27 1 ?_
  simp (maxSteps := 1000000) +contextual -dsimp [Tryz.f27, hx, ha]

def openM (l : List Step) (acts : List Int) (step : Int) : Bool := andB (andB (inR step 0 ((l.length : Int) - 1)) (eqI (kindOf l step) 2)) (eqI (szAt acts step) 1)

theorem f_isOnTask (l : List Step) (hl : l.length < 2 ^ 62) (c : Chart) (ha : c.acts.length = l.length) (step : Int) :
    fo 73 [A (.sl 99 (l.map (sT 201))), A (.agg (cT c)), A (vI step)] = some (R (vB (openM l c.acts step))) := by
  have g := f_isPlace step l.length hl
  unfold openM
  refine orc_73 1 ?_
  cases q : inR step 0 ((l.length : Int) - 1)
  · simp (maxSteps := 1000000) +contextual -dsimp [Tryz.f73, g, q]
  · obtain ⟨k, rfl, hk⟩ : ∃ k : Nat, step = k ∧ k < l.length := by
      simp [inR, andB, leI] at q
      obtain ⟨k, rfl⟩ := Int.eq_ofNat_of_zero_le q.1
      exact ⟨k, rfl, by omega⟩
    have hka : k < c.acts.length := by omega
    have hs : szAt c.acts (k : Int) = c.acts[k] := szAt_get hka
    have hki : kindOf l k = (l[k]).kind := by simp [kindOf, hk]
    simp (maxSteps := 1000000) +contextual -dsimp [Tryz.f73, g, q, hk, hka, hs, hki]

def leafB (k : Int) : Bool := orB (orB (eqI k 2) (eqI k 5)) (eqI k 6)
theorem f_leafB (k : Int) : fo 53 [A (vI k)] = some (R (vB (leafB k))) := f_isLeaf k

def opensM (acts : List Int) : Nat → List Step → List Int
  | _, [] => []
  | i, s :: r => if andB (leafB s.kind) (eqI (szAt acts i) 1) = true then (i : Int) :: opensM acts (i + 1) r else opensM acts (i + 1) r

set_option maxHeartbeats 1000000 in
theorem loop26 (all : List Step) (hall : all.length ≤ 1000) (c : Chart) (hca : c.acts.length = all.length) : ∀ (rest : List Step) (i : Nat) (acc : List Int), all.drop i = rest → acc.length ≤ i →
    evLoop E (orc E) (26 : Nat) (rest.length + 1) (loopOf Tryz.f26 0) ⟨33, [(3, .ptr 3 1 [] 0), (5, .ref 5 1 [] 0 acc.length), (9, .sl 99 (all.map (sT 201))), (10, vI all.length), (11, vI i)], [(3, ⟨1, 1, true, cT c⟩), (5, ⟨1, 1, false, [.own 2 (iE acc)]⟩)], 2⟩ =
    some (.exit 0, ⟨33, [(3, .ptr 3 1 [] 0), (5, .ref 5 1 [] 0 (acc ++ opensM c.acts i rest).length), (9, .sl 99 (all.map (sT 201))), (10, vI all.length), (11, vI (i + rest.length : Nat)), (12, vB false)], [(3, ⟨1, 1, true, cT c⟩), (5, ⟨1, 1, false, [.own 2 (iE (acc ++ opensM c.acts i rest))]⟩)], 2⟩)
  | [], i, acc, h, ha => by
    have hge : all.length ≤ i := by simpa using h
    have hlt : ltI (i : Int) (all.length : Int) = false := ltI_f (by omega)
    rw [loop_eq]
    simp +contextual -dsimp [Tryz.f26, hlt, opensM]
  | s :: rest, i, acc, h, ha => by
    obtain ⟨hi, hc, hr⟩ := drop_cons h
    have hlt : ltI (i : Int) (all.length : Int) = true := ltI_t (by omega)
    have hw : IntKind.i64.wrap ((i : Int) + 1) = ((i + 1 : Nat) : Int) := by rw [wrapI] <;> omega
    have he : i + 1 + rest.length = i + (rest.length + 1) := by omega
    have hm1 : acc.length + 1 ≤ maxElems := by unfold maxElems; omega
    have hia : i < c.acts.length := by omega
    have hs : szAt c.acts (i : Int) = c.acts[i] := szAt_get hia
    cases q1 : leafB s.kind
    · have ih := loop26 all hall c hca rest (i + 1) acc hr (by omega)
      rw [he] at ih
      have hm : opensM c.acts i (s :: rest) = opensM c.acts (i + 1) rest := by simp [opensM, q1, andB]
      rw [hm]
      refine evLoop_next ?_ (by simpa only [List.length_cons] using ih)
      simp (maxSteps := 1000000) +contextual -dsimp [Tryz.f26, hlt, hi, hc, hw, f_leafB, q1, List.set]
    · cases q2 : eqI c.acts[i] 1
      · have ih := loop26 all hall c hca rest (i + 1) acc hr (by omega)
        rw [he] at ih
        have hm : opensM c.acts i (s :: rest) = opensM c.acts (i + 1) rest := by simp [opensM, q1, hs, q2, andB]
        rw [hm]
        refine evLoop_next ?_ (by simpa only [List.length_cons] using ih)
        simp (maxSteps := 1000000) +contextual -dsimp [Tryz.f26, hlt, hi, hc, hw, f_leafB, q1, q2, hia, List.set]
      · have ih := loop26 all hall c hca rest (i + 1) (acc ++ [(i : Int)]) hr (by simp; omega)
        rw [he] at ih
        have hm : acc ++ opensM c.acts i (s :: rest) = acc ++ [(i : Int)] ++ opensM c.acts (i + 1) rest := by simp [opensM, q1, hs, q2, andB]
        rw [hm]
        refine evLoop_next ?_ (by simpa only [List.length_cons] using ih)
        simp (maxSteps := 1000000) +contextual -dsimp [Tryz.f26, hlt, hi, hc, hw, f_leafB, q1, q2, hia, hm1, List.set]

theorem f_openSteps (l : List Step) (hl : l.length ≤ 1000) (c : Chart) (ha : c.acts.length = l.length) :
    fo 26 [A (.sl 99 (l.map (sT 201))), A (.agg (cT c))] = some ⟨.own 2 (iE (opensM c.acts 0 l)), [], true⟩ := by
  have hlp := loop26 l hl c ha l 0 [] rfl (by simp)
  have hc : cleanEs (iE (opensM c.acts 0 l)) = true := by generalize opensM c.acts 0 l = k; induction k <;> simp_all [cleanEs, cleanL, clean]
  refine orc_26 (l.length + 1) ?_
  simp -dsimp [Tryz.f26, iE] at hlp
  simp (maxSteps := 1000000) +contextual -dsimp [Tryz.f26, hlp, hc, List.set]

def instAt (e : Engine) (i : Int) : Inst := e.insts.getD i.toNat ⟨0, ⟨0, 0, [], [], []⟩⟩
def stepsOf (e : Engine) (x : Inst) : List Step := e.procs.getD x.proc.toNat []
def isOpenM (e : Engine) (i : Int) (step : Int) : Bool := openM (stepsOf e (instAt e i)) (instAt e i).chart.acts step

theorem f_isOpen (e : Engine) (i : Nat) (hi : i < e.insts.length) (a : Nat) (hx : (e.insts[i]).proc = a) (ha : a < e.procs.length) (hl : (e.procs[a]).length < 2 ^ 62)
    (hc : (e.insts[i]).chart.acts.length = (e.procs[a]).length) (step : Int) : fo 51 [A (.agg (eT e)), A (vI i), A (vI step)] = some (R (vB (isOpenM e i step))) := by
  have g1 := f_steps e (e.insts[i]) a hx ha
  have g2 := f_isOnTask (e.procs[a]) hl (e.insts[i]).chart hc step
  have e1 : instAt e i = e.insts[i] := by simp [instAt, hi]
  have e2 : stepsOf e (e.insts[i]) = e.procs[a] := by simp [stepsOf, hx, ha]
  unfold isOpenM
  rw [e1, e2]
  refine orc_51 1 ?_
  simp (maxSteps := 1000000) +contextual -dsimp [Tryz.f51, g1, g2, hi, List.set]

def procsM : List (List Step) → Int
  | [] => 0
  | p :: r => if notB (eqI (procM p) 0) = true then procM p else procsM r

structure FitP (p : List Step) : Prop where
  len : p.length < 2 ^ 62
  steps : ∀ s, s ∈ p → FitS s

theorem loop70 (all : List (List Step)) (hall : all.length ≤ 1000) (hf : ∀ p, p ∈ all → FitP p) : ∀ (rest : List (List Step)) (i : Nat), all.drop i = rest →
    evLoop E (orc E) (70 : Nat) (rest.length + 1) (loopOf Tryz.f70 0) ⟨23, [(10, .sl 71 (all.map (pT 99 201))), (11, vI all.length), (12, vI i)], [], 2⟩ =
    (if eqI (procsM rest) 0 = true then some (.exit 0, ⟨23, [(10, .sl 71 (all.map (pT 99 201))), (11, vI all.length), (12, vI (i + rest.length : Nat)), (13, vB false)], [], 2⟩)
     else some (.ret, ⟨23, [(2, vI (procsM rest))], [], 2⟩))
  | [], i, h => by
    have hge : all.length ≤ i := by simpa using h
    have hlt : ltI (i : Int) (all.length : Int) = false := ltI_f (by omega)
    rw [loop_eq]
    simp +contextual -dsimp [Tryz.f70, hlt, procsM, eqI_self]
  | s :: rest, i, h => by
    obtain ⟨hi, hc, hr⟩ := drop_cons h
    have hlt : ltI (i : Int) (all.length : Int) = true := ltI_t (by omega)
    have hw : IntKind.i64.wrap ((i : Int) + 1) = ((i + 1 : Nat) : Int) := by rw [wrapI] <;> omega
    have he : i + 1 + rest.length = i + (rest.length + 1) := by omega
    have hs := hf s (by rw [← hc]; exact List.getElem_mem _)
    have g := f_ProcFault s hs.len hs.steps
    cases q : eqI (procM s) 0
    · have hm : procsM (s :: rest) = procM s := by simp [procsM, q, notB]
      rw [hm, q, if_neg (by simp)]
      refine evLoop_out ?_ (by simp)
      simp (maxSteps := 1000000) +contextual -dsimp [Tryz.f70, hlt, hi, hc, g, q, List.set]
    · have ih := loop70 all hall hf rest (i + 1) hr
      rw [he] at ih
      have hm : procsM (s :: rest) = procsM rest := by simp [procsM, q, notB]
      rw [hm]
      refine evLoop_next ?_ (by simpa only [List.length_cons] using ih)
      simp (maxSteps := 1000000) +contextual -dsimp [Tryz.f70, hlt, hi, hc, hw, g, q, List.set]

def procsF (ps : List (List Step)) : Int := if notB (inR ps.length 1 3) = true then 2 else procsM ps
theorem f_procsFault (ps : List (List Step)) (hps : ps.length < 2 ^ 62) (hf : ∀ p, p ∈ ps → FitP p) : fo 70 [A (.sl 71 (ps.map (pT 99 201)))] = some (R (vI (procsF ps))) := by
  unfold procsF
  cases c1 : inR ps.length 1 3
  · refine orc_70 1 ?_
    simp (maxSteps := 1000000) +contextual -dsimp [Tryz.f70, f_inRange, c1]
  · have hl : ps.length ≤ 1000 := by simp [inR, andB, leI] at c1; omega
    have hlp := loop70 ps hl hf ps 0 rfl
    refine orc_70 (ps.length + 1) ?_
    simp -dsimp [Tryz.f70] at hlp
    cases c2 : eqI (procsM ps) 0
    · rw [c2] at hlp
      simp (maxSteps := 1000000) +contextual -dsimp [Tryz.f70, f_inRange, c1, hlp]
    · rw [c2] at hlp
      have e0 : procsM ps = 0 := by simpa [eqI] using c2
      simp (maxSteps := 1000000) +contextual -dsimp [Tryz.f70, f_inRange, c1, e0, hlp]
end Go.TM.Lr

namespace Go.TM.Lr
open Go Go.TM Go.Proofs
set_option maxRecDepth 20000
attribute [local congr] gif_cg
attribute [local simp] footOf noClash clash upsets setsHit setHits layHits layMeets setsMeet evFeet

def instCode (e : Engine) (x : Inst) : Int := first2 (chartM (stepsOf e x) x.chart) (ci (notB (eqI x.chart.now e.now)) 9)
def instM (e : Engine) (x : Inst) : Int := if notB (inR x.proc 0 ((e.procs.length : Int) - 1)) = true then 3 else instCode e x
def instsM (e : Engine) : List Inst → Int
  | [] => 0
  | x :: r => if eqI (instM e x) 0 = true then instsM e r else instM e x

structure FitE (e : Engine) : Prop where
  np : e.procs.length < 2 ^ 62
  ni : e.insts.length < 2 ^ 62
  procs : ∀ p, p ∈ e.procs → FitP p
  insts : ∀ x, x ∈ e.insts → FitC x.chart

set_option maxHeartbeats 2000000 in
theorem loop47 (e : Engine) (hf : FitE e) : ∀ (rest : List Inst) (i : Nat), e.insts.drop i = rest →
    evLoop E (orc E) (47 : Nat) (rest.length + 1) (loopOf Tryz.f47 0) ⟨64, [(1, .ptr 1 1 [] 0), (32, .sl 67 (e.insts.map xT)), (33, vI e.insts.length), (34, vI i)], [(1, ⟨1, 1, true, eT e⟩)], 2⟩ =
    (if eqI (instsM e rest) 0 = true then some (.exit 0, ⟨64, [(1, .ptr 1 1 [] 0), (32, .sl 67 (e.insts.map xT)), (33, vI e.insts.length), (34, vI (i + rest.length : Nat)), (35, vB false)], [(1, ⟨1, 1, true, eT e⟩)], 2⟩)
     else some (.ret, ⟨64, [(2, vI (instsM e rest))], [], 2⟩))
  | [], i, h => by
    have hge : e.insts.length ≤ i := by simpa using h
    have hlt : ltI (i : Int) (e.insts.length : Int) = false := ltI_f (by omega)
    rw [loop_eq]
    simp +contextual -dsimp [Tryz.f47, hlt, instsM, eqI_self]
  | x :: rest, i, h => by
    obtain ⟨hi, hc, hr⟩ := drop_cons h
    have hni := hf.ni
    have hlt : ltI (i : Int) (e.insts.length : Int) = true := ltI_t (by omega)
    have hw : IntKind.i64.wrap ((i : Int) + 1) = ((i + 1 : Nat) : Int) := by rw [wrapI] <;> omega
    have he : i + 1 + rest.length = i + (rest.length + 1) := by omega
    have g0 := f_isPlace x.proc e.procs.length hf.np
    have hxc := hf.insts x (by rw [← hc]; exact List.getElem_mem _)
    cases q1 : inR x.proc 0 ((e.procs.length : Int) - 1)
    · have h3 : instM e x = 3 := by simp [instM, q1, notB]
      have h30 : eqI (3 : Int) 0 = false := rfl
      have hm : instsM e (x :: rest) = 3 := by simp [instsM, h3, h30]
      rw [hm, h30, if_neg (by simp)]
      refine evLoop_out ?_ (by simp)
      simp (maxSteps := 1000000) +contextual -dsimp [Tryz.f47, hlt, hi, hc, g0, q1, List.set]
    · obtain ⟨a, hx, ha⟩ : ∃ a : Nat, x.proc = a ∧ a < e.procs.length := by
        simp [inR, andB, leI] at q1
        obtain ⟨k, hk⟩ := Int.eq_ofNat_of_zero_le q1.1
        exact ⟨k, hk, by omega⟩
      have h3 : instM e x = instCode e x := by simp [instM, q1, notB]
      have hp := hf.procs (e.procs[a]) (List.getElem_mem _)
      have g1 := f_steps e x a hx ha
      have e2 : stepsOf e x = e.procs[a] := by simp [stepsOf, hx, ha]
      have g2 := f_ChartFault (e.procs[a]) hp.len hp.steps x.chart hxc
      have g3 := f_first2 (chartM (e.procs[a]) x.chart) (ci (notB (eqI x.chart.now e.now)) 9)
      cases q2 : eqI (instCode e x) 0
      · have hm : instsM e (x :: rest) = instCode e x := by simp [instsM, h3, q2]
        rw [hm, q2, if_neg (by simp)]
        unfold instCode at q2 ⊢
        rw [e2] at q2 ⊢
        refine evLoop_out ?_ (by simp)
        simp (maxSteps := 1000000) +contextual -dsimp [Tryz.f47, hlt, hi, hc, g0, g1, g2, g3, f_ci, q1, q2, List.set]
      · have ih := loop47 e hf rest (i + 1) hr
        rw [he] at ih
        have hm : instsM e (x :: rest) = instsM e rest := by simp [instsM, h3, q2]
        rw [hm]
        unfold instCode at q2
        rw [e2] at q2
        refine evLoop_next ?_ (by simpa only [List.length_cons] using ih)
        simp (maxSteps := 1000000) +contextual -dsimp [Tryz.f47, hlt, hi, hc, hw, g0, g1, g2, g3, f_ci, q1, q2, List.set]

def engA (e : Engine) : Int := first2 (procsF e.procs) (ci (notB (inR e.now 0 1000000)) 3)
def engM (e : Engine) : Int :=
  if orB (notB (inR e.procs.length 1 3)) (ltI 6 e.insts.length) = true then 2
  else if notB (eqI (engA e) 0) = true then engA e
  else instsM e e.insts

set_option maxHeartbeats 2000000 in
theorem f_EngineFault (e : Engine) (hf : FitE e) : fo 47 [A (.agg (eT e))] = some (R (vI (engM e))) := by
  have g1 := f_procsFault e.procs hf.np hf.procs
  have g3 := f_first2 (procsF e.procs) (ci (notB (inR e.now 0 1000000)) 3)
  have hlp := loop47 e hf e.insts 0 rfl
  simp -dsimp [Tryz.f47] at hlp
  unfold engM
  refine orc_47 (e.insts.length + 1) ?_
  cases q1 : inR e.procs.length 1 3
  · simp (maxSteps := 1000000) +contextual -dsimp [Tryz.f47, f_inRange, q1]
  · cases q2 : ltI 6 e.insts.length
    · cases q3 : eqI (engA e) 0
      · unfold engA at q3 ⊢
        simp (maxSteps := 1000000) +contextual -dsimp [Tryz.f47, f_inRange, f_isTime, f_ci, g1, g3, q1, q2, q3, List.set]
      · have q3' := q3
        unfold engA at q3'
        cases q4 : eqI (instsM e e.insts) 0
        · rw [q4] at hlp
          simp (maxSteps := 1000000) +contextual -dsimp [Tryz.f47, f_inRange, f_isTime, f_ci, g1, g3, q1, q2, q3', hlp, List.set]
        · rw [q4] at hlp
          have e0 : instsM e e.insts = 0 := by simpa [eqI] using q4
          simp (maxSteps := 1000000) +contextual -dsimp [Tryz.f47, f_inRange, f_isTime, f_ci, g1, g3, q1, q2, q3', e0, hlp, List.set]
    · simp (maxSteps := 1000000) +contextual -dsimp [Tryz.f47, f_inRange, q1, q2]
end Go.TM.Lr

namespace Go.TM.Lr
open Go Go.TM Go.Proofs
set_option maxRecDepth 20000
attribute [local congr] gif_cg
attribute [local simp] footOf noClash clash upsets setsHit setHits layHits layMeets setsMeet evFeet

abbrev dT (d : Desk) : List T := [.sl 71 (d.eng.procs.map (pT 99 201)), .sl 67 (d.eng.insts.map xT), vI d.eng.now, .sl 92 (d.claims.map kT)]

/-- What holds of an instance of an engine without faults. -/
structure InstOk (e : Engine) (x : Inst) : Prop where
  ex : ∃ (a : Nat) (_ : a < e.procs.length), x.proc = a
  chart : chartM (stepsOf e x) x.chart = 0

theorem instM_zero {e : Engine} {x : Inst} (h : instM e x = 0) : InstOk e x := by
  unfold instM at h
  split at h
  · simp at h
  · rename_i c
    have c : inR x.proc 0 ((e.procs.length : Int) - 1) = true := by simpa [notB] using c
    refine ⟨?_, (first2_zero h).1⟩
    simp [inR, andB, leI] at c
    obtain ⟨k, hk⟩ := Int.eq_ofNat_of_zero_le c.1
    exact ⟨k, by omega, hk⟩

theorem instsM_zero {e : Engine} : ∀ {l : List Inst}, instsM e l = 0 → ∀ x, x ∈ l → InstOk e x
  | [], _, x, hx => by simp at hx
  | y :: l, h, x, hx => by
    unfold instsM at h
    split at h
    · rename_i c
      rcases List.mem_cons.1 hx with rfl | hx
      · exact instM_zero (by simpa [eqI] using c)
      · exact instsM_zero h x hx
    · rename_i c; rw [h] at c; exact absurd rfl c

theorem engM_zero {e : Engine} (h : engM e = 0) : e.procs.length ≤ 3 ∧ e.insts.length ≤ 6 ∧ (∀ x, x ∈ e.insts → InstOk e x) := by
  unfold engM at h
  split at h
  · simp at h
  · rename_i c
    split at h
    · rename_i c2; rw [h] at c2; simp [notB, eqI] at c2
    · simp [orB, notB, inR, andB, leI, ltI] at c
      exact ⟨by omega, by omega, instsM_zero h⟩

theorem chartM_zero {l : List Step} {c : Chart} (h : chartM l c = 0) : chartA l c = 0 := by
  unfold chartM at h
  split at h
  · exact h
  · rename_i c; simpa [notB, eqI] using c

theorem InstOk.at_ {e : Engine} {x : Inst} (h : InstOk e x) : ∃ (a : Nat) (ha : a < e.procs.length), x.proc = a ∧ stepsOf e x = e.procs[a] ∧ ProcOk (e.procs[a]) ∧ x.chart.acts.length = (e.procs[a]).length := by
  obtain ⟨⟨a, ha, hx⟩, hc⟩ := h
  have e2 : stepsOf e x = e.procs[a] := by simp [stepsOf, hx, ha]
  rw [e2] at hc
  obtain ⟨z1, _, _, _, z5, _⟩ := chartA_zero (chartM_zero hc)
  exact ⟨a, ha, hx, e2, proc_ok z1, z5⟩

def cmpC (a b : Claim) : Int := first2 (cmpI a.inst b.inst) (cmpI a.step b.step)
theorem f_cmpC (a b : Claim) : fo 52 [A (.agg (kT a)), A (.agg (kT b))] = some (R (vI (cmpC a b))) := f_compareClaims a b
def clAt (l : List Claim) (k : Nat) : Claim := l.getD k ⟨0, 0, 0⟩
def claimM (d : Desk) (i : Nat) (c : Claim) : Int :=
  if orB (notB (inR c.inst 0 ((d.eng.insts.length : Int) - 1))) (notB (inR c.user 1 9)) = true then 3
  else if notB (isOpenM d.eng c.inst c.step) = true then 4
  else if andB (ltI 0 (i : Int)) (leI 0 (cmpC (clAt d.claims (i - 1)) c)) = true then 1 else 0
def claimsM (d : Desk) : Nat → List Claim → Int
  | _, [] => 0
  | i, c :: r => if eqI (claimM d i c) 0 = true then claimsM d (i + 1) r else claimM d i c

set_option maxHeartbeats 4000000 in
theorem loop25 (d : Desk) (hf : FitE d.eng) (h0 : engM d.eng = 0) (hcl : d.claims.length ≤ 60) : ∀ (rest : List Claim) (i : Nat), d.claims.drop i = rest →
    evLoop E (orc E) (25 : Nat) (rest.length + 1) (loopOf Tryz.f25 0) ⟨66, [(1, .ptr 1 1 [] 0), (20, .sl 92 (d.claims.map kT)), (21, vI d.claims.length), (22, vI i)], [(1, ⟨1, 1, true, dT d⟩)], 2⟩ =
    (if eqI (claimsM d i rest) 0 = true then some (.exit 0, ⟨66, [(1, .ptr 1 1 [] 0), (20, .sl 92 (d.claims.map kT)), (21, vI d.claims.length), (22, vI (i + rest.length : Nat)), (23, vB false)], [(1, ⟨1, 1, true, dT d⟩)], 2⟩)
     else some (.ret, ⟨66, [(2, vI (claimsM d i rest))], [], 2⟩))
  | [], i, h => by
    have hge : d.claims.length ≤ i := by simpa using h
    have hlt : ltI (i : Int) (d.claims.length : Int) = false := ltI_f (by omega)
    rw [loop_eq]
    simp +contextual -dsimp [Tryz.f25, hlt, claimsM, eqI_self]
  | x :: rest, i, h => by
    obtain ⟨hi, hc, hr⟩ := drop_cons h
    obtain ⟨n1, n2, n3⟩ := engM_zero h0
    have hlt : ltI (i : Int) (d.claims.length : Int) = true := ltI_t (by omega)
    have hw : IntKind.i64.wrap ((i : Int) + 1) = ((i + 1 : Nat) : Int) := by rw [wrapI] <;> omega
    have he : i + 1 + rest.length = i + (rest.length + 1) := by omega
    have g0 := f_isPlace x.inst d.eng.insts.length (by omega)
    have out : ∀ k : Int, claimM d i x = k → eqI k 0 = false → claimsM d i (x :: rest) = k := fun k h1 h2 => by simp [claimsM, h1, h2]
    have hE : eT d.eng = [.sl 71 (d.eng.procs.map (pT 99 201)), .sl 67 (d.eng.insts.map xT), vI d.eng.now] := rfl
    cases q1 : inR x.inst 0 ((d.eng.insts.length : Int) - 1)
    · have h3 : claimM d i x = 3 := by simp [claimM, q1, notB, orB]
      have hm := out 3 h3 rfl
      have h30 : eqI (3 : Int) 0 = false := rfl
      rw [hm, h30, if_neg (by simp)]
      refine evLoop_out ?_ (by simp)
      simp (maxSteps := 1000000) +contextual -dsimp [Tryz.f25, hlt, hi, hc, g0, q1, List.set]
    cases q2 : inR x.user 1 9
    · have h3 : claimM d i x = 3 := by simp [claimM, q1, q2, notB, orB]
      have hm := out 3 h3 rfl
      have h30 : eqI (3 : Int) 0 = false := rfl
      rw [hm, h30, if_neg (by simp)]
      refine evLoop_out ?_ (by simp)
      simp (maxSteps := 1000000) +contextual -dsimp [Tryz.f25, hlt, hi, hc, g0, f_isUser, q1, q2, List.set]
    obtain ⟨b, hb, hbl⟩ : ∃ b : Nat, x.inst = b ∧ b < d.eng.insts.length := by
      simp [inR, andB, leI] at q1
      obtain ⟨k, hk⟩ := Int.eq_ofNat_of_zero_le q1.1
      exact ⟨k, hk, by omega⟩
    obtain ⟨a, ha, hx, e2, ok, hlen⟩ := (n3 (d.eng.insts[b]) (List.getElem_mem _)).at_
    have g1 := f_isOpen d.eng b hbl a hx ha (by have := ok.le; omega) hlen x.step
    rw [← hb] at g1
    have g2 := f_cmpC (clAt d.claims (i - 1)) x
    cases q3 : isOpenM d.eng x.inst x.step
    · have h3 : claimM d i x = 4 := by simp [claimM, q1, q2, q3, notB, orB]
      have hm := out 4 h3 rfl
      have h30 : eqI (4 : Int) 0 = false := rfl
      rw [hm, h30, if_neg (by simp)]
      refine evLoop_out ?_ (by simp)
      simp (maxSteps := 1000000) +contextual -dsimp [Tryz.f25, hlt, hi, hc, g0, g1, f_isUser, q1, q2, q3, List.set]
    rcases Nat.eq_zero_or_pos i with hi0 | hi0
    · have hl0 : ltI 0 (i : Int) = false := ltI_f (by omega)
      have h3 : claimM d i x = 0 := by simp [claimM, q1, q2, q3, hl0, notB, orB, andB]
      have ih := loop25 d hf h0 hcl rest (i + 1) hr
      rw [he] at ih
      have hm : claimsM d i (x :: rest) = claimsM d (i + 1) rest := by simp [claimsM, h3, eqI_self]
      rw [hm]
      refine evLoop_next ?_ (by simpa only [List.length_cons] using ih)
      simp (maxSteps := 1000000) +contextual -dsimp [Tryz.f25, hlt, hi, hc, hw, g0, g1, f_isUser, q1, q2, q3, hl0, List.set]
    · have hl0 : ltI 0 (i : Int) = true := ltI_t (by omega)
      have hi1 : i - 1 < d.claims.length := by omega
      have hw1 : IntKind.i64.wrap ((i : Int) - 1) = ((i - 1 : Nat) : Int) := by rw [wrapI] <;> omega
      have hcl1 : clAt d.claims (i - 1) = d.claims[i - 1] := by simp [clAt, hi1]
      rw [hcl1] at g2
      cases q4 : leI 0 (cmpC (d.claims[i - 1]) x)
      · have h3 : claimM d i x = 0 := by simp [claimM, q1, q2, q3, hl0, hcl1, q4, notB, orB, andB]
        have ih := loop25 d hf h0 hcl rest (i + 1) hr
        rw [he] at ih
        have hm : claimsM d i (x :: rest) = claimsM d (i + 1) rest := by simp [claimsM, h3, eqI_self]
        rw [hm]
        refine evLoop_next ?_ (by simpa only [List.length_cons] using ih)
        simp (maxSteps := 1000000) +contextual -dsimp [Tryz.f25, hlt, hi, hc, hw, g0, g1, g2, f_isUser, q1, q2, q3, q4, hl0, hi1, hw1, List.set]
      · have h3 : claimM d i x = 1 := by simp [claimM, q1, q2, q3, hl0, hcl1, q4, notB, orB, andB]
        have hm := out 1 h3 rfl
        have h30 : eqI (1 : Int) 0 = false := rfl
        rw [hm, h30, if_neg (by simp)]
        refine evLoop_out ?_ (by simp)
        simp (maxSteps := 1000000) +contextual -dsimp [Tryz.f25, hlt, hi, hc, g0, g1, g2, f_isUser, q1, q2, q3, q4, hl0, hi1, hw1, List.set]

def deskA (d : Desk) : Int := first2 (engM d.eng) (ci (ltI 60 d.claims.length) 2)
def deskM (d : Desk) : Int := if notB (eqI (deskA d) 0) = true then deskA d else claimsM d 0 d.claims

theorem f_DeskFault (d : Desk) (hf : FitE d.eng) (hc : d.claims.length < 2 ^ 62) : fo 25 [A (.agg (dT d))] = some (R (vI (deskM d))) := by
  have g1 := f_EngineFault d.eng hf
  have g3 := f_first2 (engM d.eng) (ci (ltI 60 d.claims.length) 2)
  unfold deskM
  refine orc_25 (d.claims.length + 1) ?_
  cases q1 : eqI (deskA d) 0
  · unfold deskA at q1 ⊢
    simp (maxSteps := 1000000) +contextual -dsimp [Tryz.f25, f_ci, g1, g3, q1, List.set]
  · have e0 : deskA d = 0 := by simpa [eqI] using q1
    have z := first2_zero e0
    have z2 := ci_zero (by omega) z.2
    have hlp := loop25 d hf z.1 (by simp [ltI] at z2; omega) d.claims 0 rfl
    simp -dsimp [Tryz.f25] at hlp
    have q1' := q1
    unfold deskA at q1'
    cases q4 : eqI (claimsM d 0 d.claims) 0
    · rw [q4] at hlp
      simp (maxSteps := 1000000) +contextual -dsimp [Tryz.f25, f_ci, g1, g3, q1', hlp, List.set]
    · rw [q4] at hlp
      have e1 : claimsM d 0 d.claims = 0 := by simpa [eqI] using q4
      simp (maxSteps := 1000000) +contextual -dsimp [Tryz.f25, f_ci, g1, g3, q1', e1, hlp, List.set]
end Go.TM.Lr

namespace Go.TM.Lr
open Go Go.TM Go.Proofs
set_option maxRecDepth 20000
attribute [local congr] gif_cg
attribute [local simp] footOf noClash clash upsets setsHit setHits layHits layMeets setsMeet evFeet

def nOpen (e : Engine) (x : Inst) : Nat := (opensM x.chart.acts 0 (stepsOf e x)).length
def livesM (e : Engine) : List Inst → Bool
  | [] => true
  | x :: r => if andB (eqI x.chart.status 1) (eqI (nOpen e x) 0) = true then false else livesM e r
def countsM (e : Engine) : List Inst → Nat
  | [] => 0
  | x :: r => nOpen e x + countsM e r

theorem opens_few (acts : List Int) : ∀ (l : List Step) (i : Nat), (opensM acts i l).length ≤ l.length
  | [], _ => Nat.le_refl _
  | s :: l, i => by
    have := opens_few acts l (i + 1)
    unfold opensM
    split
    · simp; omega
    · simp; omega

set_option maxHeartbeats 2000000 in
theorem lp9 (d : Desk) (hok : ∀ x, x ∈ d.eng.insts → InstOk d.eng x) (hn : d.eng.insts.length ≤ 6) : ∀ (rest : List Inst) (i : Nat), d.eng.insts.drop i = rest →
    evLoop E (orc E) (9 : Nat) (rest.length + 1) (loopOf Tryz.f9 0) ⟨32, [(1, .ptr 1 1 [] 0), (10, .sl 67 (d.eng.insts.map xT)), (11, vI d.eng.insts.length), (12, vI i)], [(1, ⟨1, 1, true, dT d⟩)], 2⟩ =
    (if livesM d.eng rest = true then some (.exit 0, ⟨32, [(1, .ptr 1 1 [] 0), (10, .sl 67 (d.eng.insts.map xT)), (11, vI d.eng.insts.length), (12, vI (i + rest.length : Nat)), (13, vB false)], [(1, ⟨1, 1, true, dT d⟩)], 2⟩)
     else some (.ret, ⟨32, [(2, vB false)], [], 2⟩))
  | [], i, h => by
    have hge : d.eng.insts.length ≤ i := by simpa using h
    have hlt : ltI (i : Int) (d.eng.insts.length : Int) = false := ltI_f (by omega)
    rw [loop_eq]
    simp +contextual -dsimp [Tryz.f9, hlt, livesM]
  | x :: rest, i, h => by
    obtain ⟨hi, hc, hr⟩ := drop_cons h
    have hlt : ltI (i : Int) (d.eng.insts.length : Int) = true := ltI_t (by omega)
    have hw : IntKind.i64.wrap ((i : Int) + 1) = ((i + 1 : Nat) : Int) := by rw [wrapI] <;> omega
    have he : i + 1 + rest.length = i + (rest.length + 1) := by omega
    obtain ⟨a, ha, hx, e2, ok, hlen⟩ := (hok x (by rw [← hc]; exact List.getElem_mem _)).at_
    have g1 := f_steps d.eng x a hx ha
    have hle := ok.le
    have g2 := f_openSteps (d.eng.procs[a]) (by omega) x.chart hlen
    have hse := seal4_iE (opensM x.chart.acts 0 (d.eng.procs[a]))
    have eo : nOpen d.eng x = (opensM x.chart.acts 0 (d.eng.procs[a])).length := by simp [nOpen, e2]
    cases q1 : eqI x.chart.status 1
    · have hm : livesM d.eng (x :: rest) = livesM d.eng rest := by simp [livesM, q1, andB]
      have ih := lp9 d hok hn rest (i + 1) hr
      rw [he] at ih
      rw [hm]
      refine evLoop_next ?_ (by simpa only [List.length_cons] using ih)
      simp (maxSteps := 1000000) +contextual -dsimp [Tryz.f9, hlt, hi, hc, hw, q1, List.set]
    · cases q2 : eqI (nOpen d.eng x) 0
      · have hm : livesM d.eng (x :: rest) = livesM d.eng rest := by simp [livesM, q1, q2, andB]
        have ih := lp9 d hok hn rest (i + 1) hr
        rw [he] at ih
        rw [hm]
        rw [eo] at q2
        refine evLoop_next ?_ (by simpa only [List.length_cons] using ih)
        simp (maxSteps := 1000000) +contextual -dsimp [Tryz.f9, hlt, hi, hc, hw, g1, g2, hse, q1, q2, List.set]
      · have hm : livesM d.eng (x :: rest) = false := by simp [livesM, q1, q2, andB]
        rw [hm, if_neg (by simp)]
        rw [eo] at q2
        refine evLoop_out ?_ (by simp)
        simp (maxSteps := 1000000) +contextual -dsimp [Tryz.f9, hlt, hi, hc, g1, g2, hse, q1, q2, List.set]

def liveM (d : Desk) : Bool := if notB (eqI (deskM d) 0) = true then false else livesM d.eng d.eng.insts

theorem deskM_zero {d : Desk} (h : deskM d = 0) : engM d.eng = 0 := by
  unfold deskM at h
  split at h
  · rename_i c; rw [h] at c; simp [notB, eqI] at c
  · rename_i c
    have c : deskA d = 0 := by simpa [notB, eqI] using c
    exact (first2_zero c).1

theorem f_LiveRight (d : Desk) (hf : FitE d.eng) (hc : d.claims.length < 2 ^ 62) : fo 9 [A (.agg (dT d))] = some (R (vB (liveM d))) := by
  have g1 := f_DeskFault d hf hc
  unfold liveM
  refine orc_9 (d.eng.insts.length + 1) ?_
  cases q1 : eqI (deskM d) 0
  · simp (maxSteps := 1000000) +contextual -dsimp [Tryz.f9, g1, q1]
  · have e0 : deskM d = 0 := by simpa [eqI] using q1
    obtain ⟨n1, n2, n3⟩ := engM_zero (deskM_zero e0)
    have hlp := lp9 d n3 n2 d.eng.insts 0 rfl
    simp -dsimp [Tryz.f9] at hlp
    cases q4 : livesM d.eng d.eng.insts
    · rw [q4] at hlp
      simp (maxSteps := 1000000) +contextual -dsimp [Tryz.f9, g1, e0, eqI_self, hlp]
    · rw [q4] at hlp
      simp (maxSteps := 1000000) +contextual -dsimp [Tryz.f9, g1, e0, eqI_self, hlp]

set_option maxHeartbeats 2000000 in
theorem lp12 (d : Desk) (hok : ∀ x, x ∈ d.eng.insts → InstOk d.eng x) (hn : d.eng.insts.length ≤ 6) : ∀ (rest : List Inst) (i n : Nat), d.eng.insts.drop i = rest → n ≤ 24 * i →
    evLoop E (orc E) (12 : Nat) (rest.length + 1) (loopOf Tryz.f12 0) ⟨34, [(1, .ptr 1 1 [] 0), (2, .ptr 2 1 [] 0), (4, vI n), (15, .sl 67 (d.eng.insts.map xT)), (16, vI d.eng.insts.length), (17, vI i)], [(1, ⟨1, 1, true, dT d⟩), (2, ⟨1, 1, true, [vI 0, vI 0]⟩)], 2⟩ =
    some (.exit 0, ⟨34, [(1, .ptr 1 1 [] 0), (2, .ptr 2 1 [] 0), (4, vI (n + countsM d.eng rest : Nat)), (15, .sl 67 (d.eng.insts.map xT)), (16, vI d.eng.insts.length), (17, vI (i + rest.length : Nat)), (18, vB false)], [(1, ⟨1, 1, true, dT d⟩), (2, ⟨1, 1, true, [vI 0, vI 0]⟩)], 2⟩)
  | [], i, n, h, hb => by
    have hge : d.eng.insts.length ≤ i := by simpa using h
    have hlt : ltI (i : Int) (d.eng.insts.length : Int) = false := ltI_f (by omega)
    rw [loop_eq]
    simp +contextual -dsimp [Tryz.f12, hlt, countsM]
  | x :: rest, i, n, h, hb => by
    obtain ⟨hi, hc, hr⟩ := drop_cons h
    have hlt : ltI (i : Int) (d.eng.insts.length : Int) = true := ltI_t (by omega)
    have hw : IntKind.i64.wrap ((i : Int) + 1) = ((i + 1 : Nat) : Int) := by rw [wrapI] <;> omega
    have he : i + 1 + rest.length = i + (rest.length + 1) := by omega
    obtain ⟨a, ha, hx, e2, ok, hlen⟩ := (hok x (by rw [← hc]; exact List.getElem_mem _)).at_
    have g1 := f_steps d.eng x a hx ha
    have hle := ok.le
    have g2 := f_openSteps (d.eng.procs[a]) (by omega) x.chart hlen
    have hse := seal4_iE (opensM x.chart.acts 0 (d.eng.procs[a]))
    have eo : nOpen d.eng x = (opensM x.chart.acts 0 (d.eng.procs[a])).length := by simp [nOpen, e2]
    have hfew := opens_few x.chart.acts (d.eng.procs[a]) 0
    have hw2 : IntKind.i64.wrap ((n : Int) + ((opensM x.chart.acts 0 (d.eng.procs[a])).length : Int)) = ((n + nOpen d.eng x : Nat) : Int) := by rw [wrapI] <;> omega
    have ih := lp12 d hok hn rest (i + 1) (n + nOpen d.eng x) hr (by omega)
    rw [he] at ih
    have hm : n + countsM d.eng (x :: rest) = n + nOpen d.eng x + countsM d.eng rest := by simp [countsM]; omega
    rw [hm]
    refine evLoop_next ?_ (by simpa only [List.length_cons] using ih)
    simp (maxSteps := 1000000) +contextual -dsimp [Tryz.f12, hlt, hi, hc, hw, g1, g2, hse, hw2, List.set]

def countM (d : Desk) : Int × Int := if notB (eqI (deskM d) 0) = true then (deskM d, 0) else (0, (countsM d.eng d.eng.insts : Nat))

theorem f_CountOpen (d : Desk) (hf : FitE d.eng) (hc : d.claims.length < 2 ^ 62) : fo 12 [A (.agg (dT d))] = some (RI (countM d).1 (countM d).2) := by
  have g1 := f_DeskFault d hf hc
  unfold countM
  refine orc_12 (d.eng.insts.length + 1) ?_
  cases q1 : eqI (deskM d) 0
  · simp (maxSteps := 1000000) +contextual -dsimp [Tryz.f12, g1, q1, List.set]
  · have e0 : deskM d = 0 := by simpa [eqI] using q1
    obtain ⟨n1, n2, n3⟩ := engM_zero (deskM_zero e0)
    have hlp := lp12 d n3 n2 d.eng.insts 0 0 rfl (by omega)
    simp -dsimp [Tryz.f12] at hlp
    simp (maxSteps := 1000000) +contextual -dsimp [Tryz.f12, g1, e0, eqI_self, hlp, List.set]
end Go.TM.Lr

namespace Go.TM.Lr
open Go Go.TM Go.Proofs
set_option maxRecDepth 20000
attribute [local congr] gif_cg
attribute [local simp] footOf noClash clash upsets setsHit setHits layHits layMeets setsMeet evFeet

theorem f_leaf4 (k : Int) : fo 43 [A (vI k)] = some (R (vB (leafB k))) := f_l4Leaf k
theorem f_l8Time (n : Int) : fo 65 [A (vI n)] = some (R (vB (inR n 0 1000000))) := by
  refine orc_65 1 ?_
  simp (maxSteps := 1000000) +contextual -dsimp [Tryz.f65, f_l1In]

def anyV : List Int → Bool
  | [] => false
  | x :: r => if badV x = true then true else anyV r

theorem lp83 (all : List Int) (hall : all.length ≤ 1000) : ∀ (rest : List Int) (i : Nat), all.drop i = rest →
    evLoop E (orc E) (83 : Nat) (rest.length + 1) (loopOf Tryz.f83 0) ⟨19, [(0, iS all), (3, vI i)], [], 2⟩ =
    (if anyV rest = true then some (.ret, ⟨19, [(2, vI 3)], [], 2⟩) else some (.exit 0, ⟨19, [(0, iS all), (3, vI (i + rest.length : Nat)), (10, vB false)], [], 2⟩))
  | [], i, h => by
    have hge : all.length ≤ i := by simpa using h
    have hlt : ltI (i : Int) (all.length : Int) = false := ltI_f (by omega)
    rw [loop_eq]
    simp +contextual -dsimp [Tryz.f83, hlt, anyV]
  | x :: rest, i, h => by
    obtain ⟨hi, hc, hr⟩ := drop_cons h
    have hlt : ltI (i : Int) (all.length : Int) = true := ltI_t (by omega)
    have hw : IntKind.i64.wrap ((i : Int) + 1) = ((i + 1 : Nat) : Int) := by rw [wrapI] <;> omega
    have he : i + 1 + rest.length = i + (rest.length + 1) := by omega
    cases q : inR x (-1000000) 1000000
    · have hm : anyV (x :: rest) = true := by simp [anyV, badV, q, notB]
      rw [hm, if_pos rfl]
      refine evLoop_out ?_ (by simp)
      simp (maxSteps := 1000000) +contextual -dsimp [Tryz.f83, hlt, hi, hc, f_l1In, q]
    · have hm : anyV (x :: rest) = anyV rest := by simp [anyV, badV, q, notB]
      have ih := lp83 all hall rest (i + 1) hr
      rw [he] at ih
      rw [hm]
      refine evLoop_next ?_ (by simpa only [List.length_cons] using ih)
      simp (maxSteps := 1000000) +contextual -dsimp [Tryz.f83, hlt, hi, hc, hw, f_l1In, q]

def vars4M (l : List Int) : Int := if notB (eqI l.length 4) = true then 2 else if anyV l = true then 3 else 0

theorem f_Vars4 (l : List Int) : fo 83 [A (iS l)] = some (R (vI (vars4M l))) := by
  unfold vars4M
  cases q : eqI l.length 4
  · refine orc_83 1 ?_
    simp (maxSteps := 1000000) +contextual -dsimp [Tryz.f83, q]
  · have hl : l.length ≤ 1000 := by simp [eqI] at q; omega
    have hlp := lp83 l hl l 0 rfl
    refine orc_83 (l.length + 1) ?_
    simp -dsimp [Tryz.f83] at hlp
    cases q2 : anyV l
    · rw [q2] at hlp
      simp (maxSteps := 1000000) +contextual -dsimp [Tryz.f83, q, hlp]
    · rw [q2] at hlp
      simp (maxSteps := 1000000) +contextual -dsimp [Tryz.f83, q, hlp]

set_option maxHeartbeats 1000000 in
theorem lp22 (all : List Step) (hall : all.length ≤ 1000) (c : Chart) (hca : c.acts.length = all.length) : ∀ (rest : List Step) (i : Nat) (acc : List Int), all.drop i = rest → acc.length ≤ i →
    evLoop E (orc E) (22 : Nat) (rest.length + 1) (loopOf Tryz.f22 0) ⟨35, [(0, .sl 99 (all.map (sT 201))), (1, .ipt (cT c)), (5, .ref 5 1 [] 0 acc.length), (6, vI i)], [(5, ⟨1, 1, false, [.own 2 (iE acc)]⟩)], 2⟩ =
    some (.exit 0, ⟨35, [(0, .sl 99 (all.map (sT 201))), (1, .ipt (cT c)), (5, .ref 5 1 [] 0 (acc ++ opensM c.acts i rest).length), (6, vI (i + rest.length : Nat)), (11, vB false)], [(5, ⟨1, 1, false, [.own 2 (iE (acc ++ opensM c.acts i rest))]⟩)], 2⟩)
  | [], i, acc, h, ha => by
    have hge : all.length ≤ i := by simpa using h
    have hlt : ltI (i : Int) (all.length : Int) = false := ltI_f (by omega)
    rw [loop_eq]
    simp +contextual -dsimp [Tryz.f22, hlt, opensM]
  | s :: rest, i, acc, h, ha => by
    obtain ⟨hi, hc, hr⟩ := drop_cons h
    have hlt : ltI (i : Int) (all.length : Int) = true := ltI_t (by omega)
    have hw : IntKind.i64.wrap ((i : Int) + 1) = ((i + 1 : Nat) : Int) := by rw [wrapI] <;> omega
    have he : i + 1 + rest.length = i + (rest.length + 1) := by omega
    have hm1 : acc.length + 1 ≤ maxElems := by unfold maxElems; omega
    have hia : i < c.acts.length := by omega
    have hs : szAt c.acts (i : Int) = c.acts[i] := szAt_get hia
    cases q1 : leafB s.kind
    · have ih := lp22 all hall c hca rest (i + 1) acc hr (by omega)
      rw [he] at ih
      have hm : opensM c.acts i (s :: rest) = opensM c.acts (i + 1) rest := by simp [opensM, q1, andB]
      rw [hm]
      refine evLoop_next ?_ (by simpa only [List.length_cons] using ih)
      simp (maxSteps := 1000000) +contextual -dsimp [Tryz.f22, hlt, hi, hc, hw, f_leaf4, q1]
    · cases q2 : eqI c.acts[i] 1
      · have ih := lp22 all hall c hca rest (i + 1) acc hr (by omega)
        rw [he] at ih
        have hm : opensM c.acts i (s :: rest) = opensM c.acts (i + 1) rest := by simp [opensM, q1, hs, q2, andB]
        rw [hm]
        refine evLoop_next ?_ (by simpa only [List.length_cons] using ih)
        simp (maxSteps := 1000000) +contextual -dsimp [Tryz.f22, hlt, hi, hc, hw, f_leaf4, q1, q2, hia]
      · have ih := lp22 all hall c hca rest (i + 1) (acc ++ [(i : Int)]) hr (by simp; omega)
        rw [he] at ih
        have hm : acc ++ opensM c.acts i (s :: rest) = acc ++ [(i : Int)] ++ opensM c.acts (i + 1) rest := by simp [opensM, q1, hs, q2, andB]
        rw [hm]
        refine evLoop_next ?_ (by simpa only [List.length_cons] using ih)
        simp (maxSteps := 1000000) +contextual -dsimp [Tryz.f22, hlt, hi, hc, hw, f_leaf4, q1, q2, hia, hm1, List.set]

theorem f_l9Open (l : List Step) (hl : l.length ≤ 1000) (c : Chart) (ha : c.acts.length = l.length) :
    fo 22 [A (.sl 99 (l.map (sT 201))), A (.ipt (cT c))] = some ⟨.own 2 (iE (opensM c.acts 0 l)), [], true⟩ := by
  have hlp := lp22 l hl c ha l 0 [] rfl (by simp)
  have hc : cleanEs (iE (opensM c.acts 0 l)) = true := by generalize opensM c.acts 0 l = k; induction k <;> simp_all [cleanEs, cleanL, clean]
  refine orc_22 (l.length + 1) ?_
  simp -dsimp [Tryz.f22, iE] at hlp
  simp (maxSteps := 1000000) +contextual -dsimp [Tryz.f22, hlp, hc, List.set]

/-! ### l9Wrong -/
set_option maxHeartbeats 2000000 in
theorem lp84 (l : List Step) (c : Chart) (at_ : Int) (hb : c.acts.length < 2 ^ 62) (all : List Int) (hall : all.length ≤ 1000) (hk : ∀ k, k ∈ all → ∃ a : Nat, k = a ∧ a < c.acts.length) : ∀ (rest : List Int) (i n m : Nat), all.drop i = rest → n ≤ i → m ≤ i →
    evLoop E (orc E) (84 : Nat) (rest.length + 1) (loopOf Tryz.f84 0) ⟨130, [(0, .sl 99 (l.map (sT 201))), (1, .ipt (cT c)), (2, vI at_), (7, iS all), (8, vI n), (9, vI m), (10, vI i)], [], 2⟩ =
    some (.exit 0, ⟨130, [(0, .sl 99 (l.map (sT 201))), (1, .ipt (cT c)), (2, vI at_), (7, iS all), (8, vI (cntM c.acts 1 rest n)), (9, vI (cntM c.acts 2 rest m)), (10, vI (i + rest.length : Nat)), (18, vB false)], [], 2⟩)
  | [], i, n, m, h, hn, hm => by
    have hge : all.length ≤ i := by simpa using h
    have hlt : ltI (i : Int) (all.length : Int) = false := ltI_f (by omega)
    rw [loop_eq]
    simp +contextual -dsimp [Tryz.f84, hlt, cntM]
  | x :: rest, i, n, m, h, hn, hmm => by
    obtain ⟨hi, hc, hr⟩ := drop_cons h
    obtain ⟨a, rfl, ha⟩ := hk x (by rw [← hc]; exact List.getElem_mem _)
    have hlt : ltI (i : Int) (all.length : Int) = true := ltI_t (by omega)
    have hw : IntKind.i64.wrap ((i : Int) + 1) = ((i + 1 : Nat) : Int) := by rw [wrapI] <;> omega
    have hw2 : IntKind.i64.wrap ((n : Int) + 1) = ((n + 1 : Nat) : Int) := by rw [wrapI] <;> omega
    have hw3 : IntKind.i64.wrap ((m : Int) + 1) = ((m + 1 : Nat) : Int) := by rw [wrapI] <;> omega
    have he : i + 1 + rest.length = i + (rest.length + 1) := by omega
    have hs := szAt_get ha
    cases q : eqI (c.acts[a]) 1
    · cases q2 : eqI (c.acts[a]) 2
      · have ih := lp84 l c at_ hb all hall hk rest (i + 1) n m hr (by omega) (by omega)
        rw [he] at ih
        have hm1 : cntM c.acts 1 ((a : Int) :: rest) n = cntM c.acts 1 rest n := by simp [cntM, hs, q]
        have hm2 : cntM c.acts 2 ((a : Int) :: rest) m = cntM c.acts 2 rest m := by simp [cntM, hs, q2]
        rw [hm1, hm2]
        refine evLoop_next ?_ (by simpa only [List.length_cons] using ih)
        simp (maxSteps := 1000000) +contextual -dsimp [Tryz.f84, hlt, hi, hc, hw, ha, q, q2]
      · have ih := lp84 l c at_ hb all hall hk rest (i + 1) n (m + 1) hr (by omega) (by omega)
        rw [he] at ih
        have hm1 : cntM c.acts 1 ((a : Int) :: rest) n = cntM c.acts 1 rest n := by simp [cntM, hs, q]
        have hm2 : cntM c.acts 2 ((a : Int) :: rest) m = cntM c.acts 2 rest (m + 1) := by simp [cntM, hs, q2]
        rw [hm1, hm2]
        refine evLoop_next ?_ (by simpa only [List.length_cons] using ih)
        simp (maxSteps := 1000000) +contextual -dsimp [Tryz.f84, hlt, hi, hc, hw, hw3, ha, q, q2]
    · have q2 : eqI (c.acts[a]) 2 = false := by simp [eqI] at q ⊢; omega
      have ih := lp84 l c at_ hb all hall hk rest (i + 1) (n + 1) m hr (by omega) (by omega)
      rw [he] at ih
      have hm1 : cntM c.acts 1 ((a : Int) :: rest) n = cntM c.acts 1 rest (n + 1) := by simp [cntM, hs, q]
      have hm2 : cntM c.acts 2 ((a : Int) :: rest) m = cntM c.acts 2 rest m := by simp [cntM, hs, q2]
      rw [hm1, hm2]
      refine evLoop_next ?_ (by simpa only [List.length_cons] using ih)
      simp (maxSteps := 1000000) +contextual -dsimp [Tryz.f84, hlt, hi, hc, hw, hw2, ha, q]
end Go.TM.Lr

namespace Go.TM.Lr
open Go Go.TM Go.Proofs
set_option maxRecDepth 20000
attribute [local congr] gif_cg
attribute [local simp] footOf noClash clash upsets setsHit setHits layHits layMeets setsMeet evFeet

theorem kids4_at {p : Int} : ∀ {l : List Step} {i : Nat} {k : Int}, k ∈ kids4M p i l → ∃ a : Nat, k = a ∧ a < i + l.length
  | [], i, k, h => by simp [kids4M] at h
  | x :: l, i, k, h => by
    unfold kids4M at h
    have tl : k ∈ kids4M p (i + 1) l → ∃ a : Nat, k = a ∧ a < i + (x :: l).length := fun h => by
      obtain ⟨a, h1, h2⟩ := kids4_at h
      exact ⟨a, h1, by simp; omega⟩
    split at h
    · rcases List.mem_cons.1 h with rfl | h
      · exact ⟨i, rfl, by simp⟩
      · exact tl h
    · exact tl h

def wrongK (k : Int) (c : Chart) (on over : Int) (list : List Int) (due : Bool) : Bool :=
  if orB (eqI k 1) (eqI k 3) = true then orB (orB (notB (eqI on 1)) (ltI 0 over)) due
  else if eqI k 4 = true then orB (orB (ltI on 1) (notB (eqI (on + over) list.length))) due
  else if eqI k 8 = true then orB (orB (notB (eqI on 1)) (ltI 0 over)) (notB (eqB due (eqI (szAt c.acts (szAt list 0)) 1)))
  else if eqI k 6 = true then notB due
  else if eqI k 7 = true then true
  else due

def wrong9 (l : List Step) (c : Chart) (i : Nat) : Bool :=
  if notB (eqI (szAt c.acts i) 1) = true then orB (ltI 0 ((cntM c.acts 1 (kids4M i 0 l) 0 : Nat) + (cntM c.acts 2 (kids4M i 0 l) 0 : Nat))) (notB (eqI (szAt c.dues i) 0))
  else wrongK (kindOf l i) c (cntM c.acts 1 (kids4M i 0 l) 0 : Nat) (cntM c.acts 2 (kids4M i 0 l) 0 : Nat) (kids4M i 0 l) (notB (eqI (szAt c.dues i) 0))

set_option maxHeartbeats 8000000 in
theorem f_l9Wrong (l : List Step) (hl : l.length ≤ 24) (c : Chart) (ha : c.acts.length = l.length) (hd : c.dues.length = l.length) (i : Nat) (hi : i < l.length) :
    fo 84 [A (.sl 99 (l.map (sT 201))), A (.ipt (cT c)), A (vI i)] = some (R (vB (wrong9 l c i))) := by
  have g1 := f_l4Kids l (by omega) i
  have hk : ∀ k, k ∈ kids4M i 0 l → ∃ a : Nat, k = a ∧ a < c.acts.length := fun k h => by
    obtain ⟨a, h1, h2⟩ := kids4_at h
    exact ⟨a, h1, by omega⟩
  have hfew := kids4_le i l 0
  have hia : i < c.acts.length := by omega
  have hid : i < c.dues.length := by omega
  have hsa : szAt c.acts (i : Int) = c.acts[i] := szAt_get hia
  have hsd : szAt c.dues (i : Int) = c.dues[i] := szAt_get hid
  have hki : kindOf l i = (l[i]).kind := by simp [kindOf, hi]
  have b1 := cnt_le c.acts 1 (kids4M i 0 l) 0
  have b2 := cnt_le c.acts 2 (kids4M i 0 l) 0
  have hlp := lp84 l c i (by omega) (kids4M i 0 l) (by omega) hk (kids4M i 0 l) 0 0 0 rfl (by omega) (by omega)
  unfold wrong9
  rw [hsa, hsd, hki]
  have hl0 : cntM c.acts 1 (kids4M i 0 l) 0 = 1 → 0 < (kids4M i 0 l).length := fun h => by omega
  generalize hon : cntM c.acts 1 (kids4M i 0 l) 0 = on at *
  generalize hov : cntM c.acts 2 (kids4M i 0 l) 0 = ov at *
  have hw : IntKind.i64.wrap ((on : Int) + ov) = (on : Int) + ov := by rw [wrapI] <;> omega
  generalize kids4M i 0 l = ks at *
  have hse := seal4_iE ks
  refine orc_84 (ks.length + 1) ?_
  simp -dsimp [Tryz.f84] at hlp
  cases q2 : eqI c.acts[i] 1
  · simp (maxSteps := 1000000) +contextual -dsimp [Tryz.f84, g1, hse, hlp, hia, hid, q2, hw]
  · cases e1 : eqI (l[i].kind) 1
    · cases e3 : eqI (l[i].kind) 3
      · cases e4 : eqI (l[i].kind) 4
        · cases e8 : eqI (l[i].kind) 8
          · cases e6 : eqI (l[i].kind) 6
            · cases e7 : eqI (l[i].kind) 7
              · simp (maxSteps := 1000000) +contextual -dsimp [Tryz.f84, g1, hse, hlp, hia, hid, hi, q2, wrongK, e1, e3, e4, e8, e6, e7]
              · simp (maxSteps := 1000000) +contextual -dsimp [Tryz.f84, g1, hse, hlp, hia, hid, hi, q2, wrongK, e1, e3, e4, e8, e6, e7]
            · simp (maxSteps := 1000000) +contextual -dsimp [Tryz.f84, g1, hse, hlp, hia, hid, hi, q2, wrongK, e1, e3, e4, e8, e6]
          · cases o1 : eqI (on : Int) 1
            · simp (maxSteps := 1000000) +contextual -dsimp [Tryz.f84, g1, hse, hlp, hia, hid, hi, q2, wrongK, e1, e3, e4, e8, o1]
            · have hpos : 0 < ks.length := hl0 (by simp [eqI] at o1; omega)
              obtain ⟨a, ka, hla⟩ := hk (ks[0]) (List.getElem_mem _)
              have hs0 : szAt ks 0 = ks[0] := szAt_get hpos
              have hs1 : szAt c.acts (a : Int) = c.acts[a] := szAt_get hla
              cases o2 : ltI 0 (ov : Int)
              · simp (maxSteps := 1000000) +contextual -dsimp [Tryz.f84, g1, hse, hlp, hia, hid, hi, q2, wrongK, e1, e3, e4, e8, o1, o2, hpos, hs0, ka, hs1, hla]
              · simp (maxSteps := 1000000) +contextual -dsimp [Tryz.f84, g1, hse, hlp, hia, hid, hi, q2, wrongK, e1, e3, e4, e8, o1, o2, hs0, ka, hs1]
        · simp (maxSteps := 1000000) +contextual -dsimp [Tryz.f84, g1, hse, hlp, hia, hid, hi, q2, hw, wrongK, e1, e3, e4]
      · simp (maxSteps := 1000000) +contextual -dsimp [Tryz.f84, g1, hse, hlp, hia, hid, hi, q2, wrongK, e1, e3]
    · simp (maxSteps := 1000000) +contextual -dsimp [Tryz.f84, g1, hse, hlp, hia, hid, hi, q2, wrongK, e1]
end Go.TM.Lr

namespace Go.TM.Lr
open Go Go.TM Go.Proofs
set_option maxRecDepth 20000
attribute [local congr] gif_cg
attribute [local simp] footOf noClash clash upsets setsHit setHits layHits layMeets setsMeet evFeet

def rng9 (c : Chart) (i : Nat) : Bool := orB (notB (inR (szAt c.acts i) 0 2)) (notB (inR (szAt c.dues i) 0 (c.now + 99)))
def rngs9 (c : Chart) : Nat → Nat → Bool
  | 0, _ => false
  | f + 1, i => if rng9 c i = true then true else rngs9 c f (i + 1)
def some1 (c : Chart) (i : Nat) (s : Bool) : Bool := orB (orB s (notB (eqI (szAt c.acts i) 0))) (notB (eqI (szAt c.dues i) 0))
def some9 (c : Chart) : Nat → Nat → Bool → Bool
  | 0, _, s => s
  | f + 1, i, s => some9 c f (i + 1) (some1 c i s)

set_option maxHeartbeats 2000000 in
theorem lp66a (l : List Step) (hl : l.length ≤ 24) (c : Chart) (ha : c.acts.length = l.length) (hd : c.dues.length = l.length) (hn0 : 0 ≤ c.now) (hn1 : c.now ≤ 1000000) : ∀ (f i : Nat) (s : Bool), i + f = l.length →
    evLoop E (orc E) (66 : Nat) (f + 1) (loopOf Tryz.f66 0) ⟨130, [(0, .sl 99 (l.map (sT 201))), (1, .ipt (cT c)), (7, vB s), (8, vI i)], [], 2⟩ =
    (if rngs9 c f i = true then some (.ret, ⟨130, [(4, vI 3)], [], 2⟩)
     else some (.exit 0, ⟨130, [(0, .sl 99 (l.map (sT 201))), (1, .ipt (cT c)), (7, vB (some9 c f i s)), (8, vI l.length), (58, vB false)], [], 2⟩))
  | 0, i, s, h => by
    have e : i = l.length := by omega
    subst e
    have hlt : ltI (l.length : Int) (l.length : Int) = false := ltI_f (by omega)
    rw [loop_eq]
    simp +contextual -dsimp [Tryz.f66, hlt, rngs9, some9]
  | f + 1, i, s, h => by
    have hi : i < l.length := by omega
    have hia : i < c.acts.length := by omega
    have hid : i < c.dues.length := by omega
    have hsa : szAt c.acts (i : Int) = c.acts[i] := szAt_get hia
    have hsd : szAt c.dues (i : Int) = c.dues[i] := szAt_get hid
    have hlt : ltI (i : Int) (l.length : Int) = true := ltI_t (by omega)
    have hw : IntKind.i64.wrap ((i : Int) + 1) = ((i + 1 : Nat) : Int) := by rw [wrapI] <;> omega
    have hw2 : IntKind.i64.wrap (c.now + 99) = c.now + 99 := by rw [wrapI] <;> omega
    cases q : inR c.acts[i] 0 2
    · have hm : rngs9 c (f + 1) i = true := by simp [rngs9, rng9, hsa, q, notB, orB]
      rw [hm, if_pos rfl]
      refine evLoop_out ?_ (by simp)
      simp (maxSteps := 1000000) +contextual -dsimp [Tryz.f66, hlt, hia, f_l1In, q]
    · cases q2 : inR c.dues[i] 0 (c.now + 99)
      · have hm : rngs9 c (f + 1) i = true := by simp [rngs9, rng9, hsa, hsd, q, q2, notB, orB]
        rw [hm, if_pos rfl]
        refine evLoop_out ?_ (by simp)
        simp (maxSteps := 1000000) +contextual -dsimp [Tryz.f66, hlt, hia, hid, hw2, f_l1In, q, q2]
      · have ih := lp66a l hl c ha hd hn0 hn1 f (i + 1) (some1 c i s) (by omega)
        have hm : rngs9 c (f + 1) i = rngs9 c f (i + 1) := by simp [rngs9, rng9, hsa, hsd, q, q2, notB, orB]
        have hm2 : some9 c (f + 1) i s = some9 c f (i + 1) (some1 c i s) := rfl
        rw [hm, hm2]
        refine evLoop_next ?_ ih
        unfold some1
        rw [hsa, hsd]
        simp (maxSteps := 1000000) +contextual -dsimp [Tryz.f66, hlt, hia, hid, hw, hw2, f_l1In, q, q2]

def wrongs9 (l : List Step) (c : Chart) : Nat → Nat → Bool
  | 0, _ => false
  | f + 1, i => if wrong9 l c i = true then true else wrongs9 l c f (i + 1)

theorem lp66b (l : List Step) (hl : l.length ≤ 24) (c : Chart) (ha : c.acts.length = l.length) (hd : c.dues.length = l.length) : ∀ (f i : Nat), i + f = l.length →
    evLoop E (orc E) (66 : Nat) (f + 1) (loopOf Tryz.f66 1) ⟨130, [(0, .sl 99 (l.map (sT 201))), (1, .ipt (cT c)), (9, vI i)], [], 2⟩ =
    (if wrongs9 l c f i = true then some (.ret, ⟨130, [(4, vI 1)], [], 2⟩)
     else some (.exit 2, ⟨130, [(0, .sl 99 (l.map (sT 201))), (1, .ipt (cT c)), (9, vI l.length), (123, vB false)], [], 2⟩))
  | 0, i, h => by
    have e : i = l.length := by omega
    subst e
    have hlt : ltI (l.length : Int) (l.length : Int) = false := ltI_f (by omega)
    rw [loop_eq]
    simp +contextual -dsimp [Tryz.f66, hlt, wrongs9]
  | f + 1, i, h => by
    have hi : i < l.length := by omega
    have hlt : ltI (i : Int) (l.length : Int) = true := ltI_t (by omega)
    have hw : IntKind.i64.wrap ((i : Int) + 1) = ((i + 1 : Nat) : Int) := by rw [wrapI] <;> omega
    have g := f_l9Wrong l hl c ha hd i hi
    cases q : wrong9 l c i
    · have ih := lp66b l hl c ha hd f (i + 1) (by omega)
      have hm : wrongs9 l c (f + 1) i = wrongs9 l c f (i + 1) := by simp [wrongs9, q]
      rw [hm]
      refine evLoop_next ?_ ih
      simp (maxSteps := 1000000) +contextual -dsimp [Tryz.f66, hlt, g, q, hw]
    · have hm : wrongs9 l c (f + 1) i = true := by simp [wrongs9, q]
      rw [hm, if_pos rfl]
      refine evLoop_out ?_ (by simp)
      simp (maxSteps := 1000000) +contextual -dsimp [Tryz.f66, hlt, g, q]

def fault9 (l : List Step) (c : Chart) : Int :=
  if notB (eqI (fault4M l) 0) = true then fault4M l
  else if orB (notB (inR c.status 1 3)) (notB (inR c.now 0 1000000)) = true then 3
  else if notB (eqI (vars4M c.vars) 0) = true then vars4M c.vars
  else if orB (notB (eqI c.acts.length l.length)) (notB (eqI c.dues.length l.length)) = true then 2
  else if rngs9 c l.length 0 = true then 3
  else if notB (eqI c.status 1) = true then (if some9 c l.length 0 false = true then 1 else 0)
  else if notB (eqI (szAt c.acts 0) 1) = true then 1
  else if wrongs9 l c l.length 0 = true then 1 else 0

theorem fault4_pos {l : List Step} (h : fault4M l = 0) : 1 ≤ l.length ∧ l.length ≤ 24 := by
  unfold fault4M at h
  split at h
  · simp at h
  · rename_i c; simp [orB, ltI] at c; omega

set_option maxHeartbeats 8000000 in
theorem f_l9Fault (l : List Step) (hl : l.length < 2 ^ 62) (hf : FitX l) (c : Chart) : fo 66 [A (.sl 99 (l.map (sT 201))), A (.ipt (cT c))] = some (R (vI (fault9 l c))) := by
  have g1 := f_l4Fault l hl hf
  have g2 := f_Vars4 c.vars
  unfold fault9
  refine orc_66 (l.length + 1) ?_
  cases q1 : eqI (fault4M l) 0
  · simp (maxSteps := 1000000) +contextual -dsimp [Tryz.f66, g1, q1]
  · have e0 : fault4M l = 0 := by simpa [eqI] using q1
    obtain ⟨p1, p2⟩ := fault4_pos e0
    cases q2 : inR c.status 1 3
    · simp (maxSteps := 1000000) +contextual -dsimp [Tryz.f66, g1, e0, eqI_self, f_l1In, q2]
    · cases q3 : inR c.now 0 1000000
      · simp (maxSteps := 1000000) +contextual -dsimp [Tryz.f66, g1, e0, eqI_self, f_l1In, f_l8Time, q2, q3]
      · cases q4 : eqI (vars4M c.vars) 0
        · simp (maxSteps := 1000000) +contextual -dsimp [Tryz.f66, g1, g2, e0, eqI_self, f_l1In, f_l8Time, q2, q3, q4]
        · have e1 : vars4M c.vars = 0 := by simpa [eqI] using q4
          cases q5 : eqI c.acts.length l.length
          · simp (maxSteps := 1000000) +contextual -dsimp [Tryz.f66, g1, g2, e0, e1, eqI_self, f_l1In, f_l8Time, q2, q3, q5]
          · cases q6 : eqI c.dues.length l.length
            · simp (maxSteps := 1000000) +contextual -dsimp [Tryz.f66, g1, g2, e0, e1, eqI_self, f_l1In, f_l8Time, q2, q3, q5, q6]
            · have ha : c.acts.length = l.length := by simp [eqI] at q5; omega
              have hd : c.dues.length = l.length := by simp [eqI] at q6; omega
              have hn : 0 ≤ c.now ∧ c.now ≤ 1000000 := by simp [inR, andB, leI] at q3; omega
              have hlp := lp66a l p2 c ha hd hn.1 hn.2 l.length 0 false (by omega)
              have hlq := lp66b l p2 c ha hd l.length 0 (by omega)
              have ha0 : 0 < c.acts.length := by omega
              have hs : szAt c.acts 0 = c.acts[0] := szAt_get ha0
              simp -dsimp [Tryz.f66] at hlp hlq
              cases q7 : rngs9 c l.length 0
              · rw [q7] at hlp
                cases q8 : eqI c.status 1
                · cases q9 : some9 c l.length 0 false
                  · rw [q9] at hlp
                    simp (maxSteps := 1000000) +contextual -dsimp [Tryz.f66, g1, g2, e0, e1, eqI_self, f_l1In, f_l8Time, q2, q3, q5, q6, q8, hlp]
                  · rw [q9] at hlp
                    simp (maxSteps := 1000000) +contextual -dsimp [Tryz.f66, g1, g2, e0, e1, eqI_self, f_l1In, f_l8Time, q2, q3, q5, q6, q8, hlp]
                · rw [hs]
                  cases q10 : eqI c.acts[0] 1
                  · simp (maxSteps := 1000000) +contextual -dsimp [Tryz.f66, g1, g2, e0, e1, eqI_self, f_l1In, f_l8Time, q2, q3, q5, q6, q8, q10, ha0, hlp]
                  · cases q11 : wrongs9 l c l.length 0
                    · rw [q11] at hlq
                      simp (maxSteps := 1000000) +contextual -dsimp [Tryz.f66, g1, g2, e0, e1, eqI_self, f_l1In, f_l8Time, q2, q3, q5, q6, q8, q10, ha0, hlp, hlq]
                    · rw [q11] at hlq
                      simp (maxSteps := 1000000) +contextual -dsimp [Tryz.f66, g1, g2, e0, e1, eqI_self, f_l1In, f_l8Time, q2, q3, q5, q6, q8, q10, ha0, hlp, hlq]
              · rw [q7] at hlp
                simp (maxSteps := 1000000) +contextual -dsimp [Tryz.f66, g1, g2, e0, e1, eqI_self, f_l1In, f_l8Time, q2, q3, q5, q6, hlp]
end Go.TM.Lr

namespace Go.TM.Lr
open Go Go.TM Go.Proofs
set_option maxRecDepth 20000
attribute [local congr] gif_cg
attribute [local simp] footOf noClash clash upsets setsHit setHits layHits layMeets setsMeet evFeet

theorem FitP.x {p : List Step} (h : FitP p) : FitX p := fun s hs => ⟨(h.steps s hs).name, (h.steps s hs).cond, (h.steps s hs).expr⟩

def procs4M : List (List Step) → Int
  | [] => 0
  | p :: r => if notB (eqI (fault4M p) 0) = true then fault4M p else procs4M r

theorem lp64 (all : List (List Step)) (hall : all.length ≤ 1000) (hf : ∀ p, p ∈ all → FitP p) : ∀ (rest : List (List Step)) (i : Nat), all.drop i = rest →
    evLoop E (orc E) (64 : Nat) (rest.length + 1) (loopOf Tryz.f64 0) ⟨28, [(0, .sl 71 (all.map (pT 99 201))), (3, vI i)], [], 2⟩ =
    (if eqI (procs4M rest) 0 = true then some (.exit 0, ⟨28, [(0, .sl 71 (all.map (pT 99 201))), (3, vI (i + rest.length : Nat)), (16, vB false)], [], 2⟩)
     else some (.ret, ⟨28, [(2, vI (procs4M rest))], [], 2⟩))
  | [], i, h => by
    have hge : all.length ≤ i := by simpa using h
    have hlt : ltI (i : Int) (all.length : Int) = false := ltI_f (by omega)
    rw [loop_eq]
    simp +contextual -dsimp [Tryz.f64, hlt, procs4M, eqI_self]
  | s :: rest, i, h => by
    obtain ⟨hi, hc, hr⟩ := drop_cons h
    have hlt : ltI (i : Int) (all.length : Int) = true := ltI_t (by omega)
    have hw : IntKind.i64.wrap ((i : Int) + 1) = ((i + 1 : Nat) : Int) := by rw [wrapI] <;> omega
    have he : i + 1 + rest.length = i + (rest.length + 1) := by omega
    have hs := hf s (by rw [← hc]; exact List.getElem_mem _)
    have g := f_l4Fault s hs.len hs.x
    cases q : eqI (fault4M s) 0
    · have hm : procs4M (s :: rest) = fault4M s := by simp [procs4M, q, notB]
      rw [hm, q, if_neg (by simp)]
      refine evLoop_out ?_ (by simp)
      simp (maxSteps := 1000000) +contextual -dsimp [Tryz.f64, hlt, hi, hc, g, q]
    · have ih := lp64 all hall hf rest (i + 1) hr
      rw [he] at ih
      have hm : procs4M (s :: rest) = procs4M rest := by simp [procs4M, q, notB]
      rw [hm]
      refine evLoop_next ?_ (by simpa only [List.length_cons] using ih)
      simp (maxSteps := 1000000) +contextual -dsimp [Tryz.f64, hlt, hi, hc, hw, g, q]

def procs4F (ps : List (List Step)) : Int := if orB (ltI ps.length 1) (ltI 3 ps.length) = true then 2 else procs4M ps
theorem f_l11Procs (ps : List (List Step)) (hps : ps.length < 2 ^ 62) (hf : ∀ p, p ∈ ps → FitP p) : fo 64 [A (.sl 71 (ps.map (pT 99 201)))] = some (R (vI (procs4F ps))) := by
  unfold procs4F
  cases c1 : orB (ltI ps.length 1) (ltI 3 ps.length)
  · have hl : ps.length ≤ 1000 := by simp [orB, ltI] at c1; omega
    have hlp := lp64 ps hl hf ps 0 rfl
    refine orc_64 (ps.length + 1) ?_
    simp -dsimp [Tryz.f64] at hlp
    cases c2 : eqI (procs4M ps) 0
    · rw [c2] at hlp
      simp (maxSteps := 1000000) +contextual -dsimp [Tryz.f64, c1, hlp]
    · rw [c2] at hlp
      have e0 : procs4M ps = 0 := by simpa [eqI] using c2
      simp (maxSteps := 1000000) +contextual -dsimp [Tryz.f64, c1, e0, hlp]
  · refine orc_64 1 ?_
    simp (maxSteps := 1000000) +contextual -dsimp [Tryz.f64, c1]

/-! ### the engine, through a pointer -/
def inst4M (e : Engine) (x : Inst) : Int :=
  if notB (inR x.proc 0 ((e.procs.length : Int) - 1)) = true then 3
  else if notB (eqI (fault9 (stepsOf e x) x.chart) 0) = true then fault9 (stepsOf e x) x.chart
  else if notB (eqI x.chart.now e.now) = true then 9 else 0
def insts4M (e : Engine) : List Inst → Int
  | [] => 0
  | x :: r => if eqI (inst4M e x) 0 = true then insts4M e r else inst4M e x

set_option maxHeartbeats 2000000 in
theorem lp38 (e : Engine) (tl : List T) (hf : FitE e) : ∀ (rest : List Inst) (i : Nat), e.insts.drop i = rest →
    evLoop E (orc E) (38 : Nat) (rest.length + 1) (loopOf Tryz.f38 0) ⟨82, [(0, .ipt (.sl 71 (e.procs.map (pT 99 201)) :: .sl 67 (e.insts.map xT) :: vI e.now :: tl)), (4, vI i)], [], 2⟩ =
    (if eqI (insts4M e rest) 0 = true then some (.exit 0, ⟨82, [(0, .ipt (.sl 71 (e.procs.map (pT 99 201)) :: .sl 67 (e.insts.map xT) :: vI e.now :: tl)), (4, vI (i + rest.length : Nat)), (33, vB false)], [], 2⟩)
     else some (.ret, ⟨82, [(2, vI (insts4M e rest))], [], 2⟩))
  | [], i, h => by
    have hge : e.insts.length ≤ i := by simpa using h
    have hlt : ltI (i : Int) (e.insts.length : Int) = false := ltI_f (by omega)
    rw [loop_eq]
    simp +contextual -dsimp [Tryz.f38, hlt, insts4M, eqI_self]
  | x :: rest, i, h => by
    obtain ⟨hi, hc, hr⟩ := drop_cons h
    have hni := hf.ni
    have hnp := hf.np
    have hlt : ltI (i : Int) (e.insts.length : Int) = true := ltI_t (by omega)
    have hw : IntKind.i64.wrap ((i : Int) + 1) = ((i + 1 : Nat) : Int) := by rw [wrapI] <;> omega
    have hw2 : IntKind.i64.wrap ((e.procs.length : Int) - 1) = (e.procs.length : Int) - 1 := by rw [wrapI] <;> omega
    have he : i + 1 + rest.length = i + (rest.length + 1) := by omega
    have out : ∀ k : Int, inst4M e x = k → eqI k 0 = false → insts4M e (x :: rest) = k := fun k h1 h2 => by simp [insts4M, h1, h2]
    cases q1 : inR x.proc 0 ((e.procs.length : Int) - 1)
    · have hm := out 3 (by simp [inst4M, q1, notB]) rfl
      have h30 : eqI (3 : Int) 0 = false := rfl
      rw [hm, h30, if_neg (by simp)]
      refine evLoop_out ?_ (by simp)
      simp (maxSteps := 1000000) +contextual -dsimp [Tryz.f38, hlt, hi, hc, hw2, f_l1In, q1]
    · obtain ⟨a, hx, ha⟩ : ∃ a : Nat, x.proc = a ∧ a < e.procs.length := by
        simp [inR, andB, leI] at q1
        obtain ⟨k, hk⟩ := Int.eq_ofNat_of_zero_le q1.1
        exact ⟨k, hk, by omega⟩
      have q1' := q1
      rw [hx] at q1'
      have hp := hf.procs (e.procs[a]) (List.getElem_mem _)
      have e2 : stepsOf e x = e.procs[a] := by simp [stepsOf, hx, ha]
      have g2 := f_l9Fault (e.procs[a]) hp.len hp.x x.chart
      cases q2 : eqI (fault9 (e.procs[a]) x.chart) 0
      · have hm := out (fault9 (e.procs[a]) x.chart) (by simp [inst4M, q1, e2, q2, notB]) q2
        rw [hm, q2, if_neg (by simp)]
        refine evLoop_out ?_ (by simp)
        simp (maxSteps := 1000000) +contextual -dsimp [Tryz.f38, hlt, hi, hc, hw2, f_l1In, hx, ha, q1', g2, q2]
      · cases q3 : eqI x.chart.now e.now
        · have hm := out 9 (by simp [inst4M, q1, e2, q2, q3, notB]) rfl
          have h30 : eqI (9 : Int) 0 = false := rfl
          rw [hm, h30, if_neg (by simp)]
          refine evLoop_out ?_ (by simp)
          simp (maxSteps := 1000000) +contextual -dsimp [Tryz.f38, hlt, hi, hc, hw2, f_l1In, hx, ha, q1', g2, q2, q3]
        · have h3 : inst4M e x = 0 := by simp [inst4M, q1, e2, q2, q3, notB]
          have ih := lp38 e tl hf rest (i + 1) hr
          rw [he] at ih
          have hm : insts4M e (x :: rest) = insts4M e rest := by simp [insts4M, h3, eqI_self]
          rw [hm]
          refine evLoop_next ?_ (by simpa only [List.length_cons] using ih)
          simp (maxSteps := 1000000) +contextual -dsimp [Tryz.f38, hlt, hi, hc, hw, hw2, f_l1In, hx, ha, q1', g2, q2, q3]

def eng4M (e : Engine) : Int :=
  if ltI 6 e.insts.length = true then 2
  else if notB (eqI (procs4F e.procs) 0) = true then procs4F e.procs
  else if notB (inR e.now 0 1000000) = true then 3
  else insts4M e e.insts

set_option maxHeartbeats 2000000 in
theorem f_l11Fault (e : Engine) (tl : List T) (hf : FitE e) : fo 38 [A (.ipt (.sl 71 (e.procs.map (pT 99 201)) :: .sl 67 (e.insts.map xT) :: vI e.now :: tl))] = some (R (vI (eng4M e))) := by
  have g1 := f_l11Procs e.procs hf.np hf.procs
  have hlp := lp38 e tl hf e.insts 0 rfl
  simp -dsimp [Tryz.f38] at hlp
  unfold eng4M
  refine orc_38 (e.insts.length + 1) ?_
  cases q1 : ltI 6 e.insts.length
  · cases q2 : eqI (procs4F e.procs) 0
    · simp (maxSteps := 1000000) +contextual -dsimp [Tryz.f38, g1, q1, q2]
    · have e0 : procs4F e.procs = 0 := by simpa [eqI] using q2
      cases q3 : inR e.now 0 1000000
      · simp (maxSteps := 1000000) +contextual -dsimp [Tryz.f38, f_l8Time, g1, q1, e0, eqI_self, q3]
      · cases q4 : eqI (insts4M e e.insts) 0
        · rw [q4] at hlp
          simp (maxSteps := 1000000) +contextual -dsimp [Tryz.f38, f_l8Time, g1, q1, e0, eqI_self, q3, hlp]
        · rw [q4] at hlp
          have e1 : insts4M e e.insts = 0 := by simpa [eqI] using q4
          simp (maxSteps := 1000000) +contextual -dsimp [Tryz.f38, f_l8Time, g1, q1, e0, eqI_self, q3, e1, hlp]
  · simp (maxSteps := 1000000) +contextual -dsimp [Tryz.f38, q1]

theorem f_l12User (n : Int) : fo 40 [A (vI n)] = some (R (vB (inR n 1 9))) := by
  refine orc_40 1 ?_
  simp (maxSteps := 1000000) +contextual -dsimp [Tryz.f40, f_l1In]

def aheadM (a b : Claim) : Bool := orB (ltI a.inst b.inst) (andB (eqI a.inst b.inst) (ltI a.step b.step))
theorem f_l12Ahead (a b : Claim) : fo 42 [A (.agg (kT a)), A (.agg (kT b))] = some (R (vB (aheadM a b))) := by
  unfold aheadM
  refine orc_42 1 ?_
  simp (maxSteps := 1000000) +contextual -dsimp [Tryz.f42]

theorem f_l12Open (e : Engine) (tl : List T) (i : Nat) (hi : i < e.insts.length) (a : Nat) (hx : (e.insts[i]).proc = a) (ha : a < e.procs.length) (hl : (e.procs[a]).length < 2 ^ 62)
    (hc : (e.insts[i]).chart.acts.length = (e.procs[a]).length) (step : Int) :
    fo 41 [A (.ipt (.sl 71 (e.procs.map (pT 99 201)) :: .sl 67 (e.insts.map xT) :: vI e.now :: tl)), A (vI i), A (vI step)] = some (R (vB (isOpenM e i step))) := by
  have e1 : instAt e i = e.insts[i] := by simp [instAt, hi]
  have e2 : stepsOf e (e.insts[i]) = e.procs[a] := by simp [stepsOf, hx, ha]
  have hw : IntKind.i64.wrap (((e.procs[a]).length : Int) - 1) = ((e.procs[a]).length : Int) - 1 := by rw [wrapI] <;> omega
  unfold isOpenM
  rw [e1, e2]
  unfold openM
  refine orc_41 1 ?_
  cases q : inR step 0 (((e.procs[a]).length : Int) - 1)
  · simp (maxSteps := 1000000) +contextual -dsimp [Tryz.f41, f_l1In, hi, hx, ha, hw, q]
  · obtain ⟨k, rfl, hk⟩ : ∃ k : Nat, step = k ∧ k < (e.procs[a]).length := by
      simp [inR, andB, leI] at q
      obtain ⟨k, rfl⟩ := Int.eq_ofNat_of_zero_le q.1
      exact ⟨k, rfl, by omega⟩
    have hka : k < (e.insts[i]).chart.acts.length := by omega
    have hs : szAt (e.insts[i]).chart.acts (k : Int) = (e.insts[i]).chart.acts[k] := szAt_get hka
    have hki : kindOf (e.procs[a]) k = ((e.procs[a])[k]).kind := by simp [kindOf, hk]
    simp (maxSteps := 1000000) +contextual -dsimp [Tryz.f41, f_l1In, hi, hx, ha, hw, q, hk, hka, hs, hki]
end Go.TM.Lr

namespace Go.TM.Lr
open Go Go.TM Go.Proofs
set_option maxRecDepth 20000

/-! ### the plain law: charts -/
theorem idxM_any (p : Int → Bool) : ∀ (l : List Int) (i : Nat), leI 0 (idxM p i l) = l.any p
  | [], i => by simp [idxM, leI]
  | x :: l, i => by
    have ih := idxM_any p l (i + 1)
    unfold idxM
    cases h : p x
    · simp [ih, h]
    · simp [h, leI]
theorem hasB_any (p : Int → Bool) (l : List Int) : hasB p l = l.any p := idxM_any p l 0
theorem anyV_any : ∀ (l : List Int), anyV l = l.any badV
  | [] => rfl
  | x :: l => by
    unfold anyV
    rw [anyV_any l]
    cases h : badV x <;> simp [h]

theorem vars_same (l : List Int) : vars4M l = varsM l := by
  unfold vars4M varsM
  rw [anyV_any, hasB_any]
  cases eqI l.length 4 <;> cases l.any badV <;> rfl

theorem any_at {l : List Int} {p : Int → Bool} : l.any p = true ↔ ∃ i, i < l.length ∧ p (szAt l i) = true := by
  rw [List.any_eq_true]
  constructor
  · rintro ⟨x, hx, hp⟩
    obtain ⟨i, hi, he⟩ := List.getElem_of_mem hx
    exact ⟨i, hi, by rw [szAt_get hi, he]; exact hp⟩
  · rintro ⟨i, hi, hp⟩
    rw [szAt_get hi] at hp
    exact ⟨_, List.getElem_mem hi, hp⟩

theorem rngs_iff (c : Chart) : ∀ (f i : Nat), rngs9 c f i = true ↔ ∃ k, i ≤ k ∧ k < i + f ∧ rng9 c k = true
  | 0, i => by simp [rngs9]; omega
  | f + 1, i => by
    unfold rngs9
    have ih := rngs_iff c f (i + 1)
    cases h : rng9 c i
    · simp only [Bool.false_eq_true, if_false]
      rw [ih]
      constructor
      · rintro ⟨k, h1, h2, h3⟩; exact ⟨k, by omega, by omega, h3⟩
      · rintro ⟨k, h1, h2, h3⟩
        rcases Nat.lt_or_ge i k with h' | h'
        · exact ⟨k, h', by omega, h3⟩
        · have e : k = i := by omega
          subst e; rw [h] at h3; simp at h3
    · simp only [if_true, true_iff]
      exact ⟨i, Nat.le_refl _, by omega, h⟩

theorem some_iff (c : Chart) : ∀ (f i : Nat) (s : Bool), some9 c f i s = true ↔ s = true ∨ ∃ k, i ≤ k ∧ k < i + f ∧ (szAt c.acts k ≠ 0 ∨ szAt c.dues k ≠ 0)
  | 0, i, s => by
    simp only [some9]
    constructor
    · exact .inl
    · rintro (h | ⟨k, h1, h2, _⟩)
      · exact h
      · omega
  | f + 1, i, s => by
    have ih := some_iff c f (i + 1) (some1 c i s)
    unfold some9
    rw [ih]
    have h1 : some1 c i s = true ↔ s = true ∨ szAt c.acts i ≠ 0 ∨ szAt c.dues i ≠ 0 := by
      simp [some1, orB, notB, eqI, or_assoc]
    rw [h1]
    constructor
    · rintro ((h | h) | ⟨k, a, b, h⟩)
      · exact .inl h
      · exact .inr ⟨i, Nat.le_refl _, by omega, h⟩
      · exact .inr ⟨k, by omega, by omega, h⟩
    · rintro (h | ⟨k, a, b, h⟩)
      · exact .inl (.inl h)
      · rcases Nat.lt_or_ge i k with h' | h'
        · exact .inr ⟨k, h', by omega, h⟩
        · have e : k = i := by omega
          subst e; exact .inl (.inr h)

theorem small_iff {m : Int} {l : List Int} : smS m l = false ↔ ∃ i, i < l.length ∧ inR (szAt l i) 0 m = false := by
  unfold smS
  rw [hasB_any]
  have : notB (l.any (badS m)) = false ↔ l.any (badS m) = true := by simp [notB]
  rw [this, any_at]
  simp [badS, notB]

theorem rng_same {c : Chart} {n : Nat} (ha : c.acts.length = n) (hd : c.dues.length = n) : rngs9 c n 0 = orB (notB (smS 2 c.acts)) (notB (smS (c.now + 99) c.dues)) := by
  rw [Bool.eq_iff_iff, rngs_iff]
  have e1 : orB (notB (smS 2 c.acts)) (notB (smS (c.now + 99) c.dues)) = true ↔ smS 2 c.acts = false ∨ smS (c.now + 99) c.dues = false := by simp [orB, notB]
  rw [e1, small_iff, small_iff]
  have e2 : ∀ k, rng9 c k = true ↔ inR (szAt c.acts k) 0 2 = false ∨ inR (szAt c.dues k) 0 (c.now + 99) = false := fun k => by simp [rng9, orB, notB]
  constructor
  · rintro ⟨k, _, h2, h3⟩
    rcases (e2 k).1 h3 with h | h
    · exact .inl ⟨k, by omega, h⟩
    · exact .inr ⟨k, by omega, h⟩
  · rintro (⟨k, h2, h3⟩ | ⟨k, h2, h3⟩)
    · exact ⟨k, Nat.zero_le _, by omega, (e2 k).2 (.inl h3)⟩
    · exact ⟨k, Nat.zero_le _, by omega, (e2 k).2 (.inr h3)⟩

theorem some_same {c : Chart} {n : Nat} (ha : c.acts.length = n) (hd : c.dues.length = n) : some9 c n 0 false = notB (andB (smS 0 c.acts) (smS 0 c.dues)) := by
  rw [Bool.eq_iff_iff, some_iff]
  have e1 : notB (andB (smS 0 c.acts) (smS 0 c.dues)) = true ↔ smS 0 c.acts = false ∨ smS 0 c.dues = false := by
    cases smS 0 c.acts <;> cases smS 0 c.dues <;> simp [notB, andB]
  have e2 : ∀ x : Int, inR x 0 0 = false ↔ x ≠ 0 := fun x => by
    by_cases h : x = 0
    · simp [inR, andB, leI, h]
    · have : ¬ (0 ≤ x ∧ x ≤ 0) := by omega
      simp [inR, andB, leI, h]; omega
  rw [e1, small_iff, small_iff]
  simp only [e2, Bool.false_eq_true, false_or]
  constructor
  · rintro ⟨k, _, h2, h | h⟩
    · exact .inl ⟨k, by omega, h⟩
    · exact .inr ⟨k, by omega, h⟩
  · rintro (⟨k, h2, h3⟩ | ⟨k, h2, h3⟩)
    · exact ⟨k, Nat.zero_le _, by omega, .inl h3⟩
    · exact ⟨k, Nat.zero_le _, by omega, .inr h3⟩

/-! ### what goes together -/
theorem cnt_pos (acts : List Int) (act : Int) : ∀ (l : List Int) (n : Nat), n < cntM acts act l n ↔ ∃ k, k ∈ l ∧ szAt acts k = act
  | [], n => by simp [cntM]
  | x :: l, n => by
    unfold cntM
    cases h : eqI (szAt acts x) act
    · simp only [Bool.false_eq_true, if_false]
      rw [cnt_pos acts act l n]
      have hx : szAt acts x ≠ act := by simpa [eqI] using h
      simp [hx]
    · simp only [if_true]
      have hx : szAt acts x = act := by simpa [eqI] using h
      have h1 := cnt_pos acts act l (n + 1)
      have h2 : n + 1 ≤ cntM acts act l (n + 1) := by
        clear h1 h hx
        have : ∀ (l : List Int) (m : Nat), m ≤ cntM acts act l m := by
          intro l
          induction l with
          | nil => intro m; simp [cntM]
          | cons y l ih =>
            intro m
            unfold cntM
            split
            · have := ih (m + 1); omega
            · exact ih m
        exact this l (n + 1)
      constructor
      · intro _; exact ⟨x, by simp, hx⟩
      · intro _; omega

theorem kids4_iff {p : Int} : ∀ {l : List Step} {i : Nat} {k : Int}, k ∈ kids4M p i l ↔ ∃ (a : Nat) (h : a < l.length), k = (i + a : Nat) ∧ (l[a]).parent = p
  | [], i, k => by simp [kids4M]
  | x :: l, i, k => by
    have ih := kids4_iff (p := p) (l := l) (i := i + 1) (k := k)
    have tl : (∃ (a : Nat) (h : a < l.length), k = (i + 1 + a : Nat) ∧ (l[a]).parent = p) ↔ ∃ (a : Nat) (h : a < (x :: l).length), k = (i + a : Nat) ∧ ((x :: l)[a]).parent = p ∧ 0 < a := by
      constructor
      · rintro ⟨a, h, h1, h2⟩
        exact ⟨a + 1, by simp; omega, by omega, by simpa using h2, by omega⟩
      · rintro ⟨a, h, h1, h2, h3⟩
        cases a with
        | zero => omega
        | succ a => exact ⟨a, by simpa using h, by omega, by simpa using h2⟩
    unfold kids4M
    cases h : eqI x.parent p
    · simp only [Bool.false_eq_true, if_false]
      rw [ih, tl]
      constructor
      · rintro ⟨a, h, h1, h2, _⟩; exact ⟨a, h, h1, h2⟩
      · rintro ⟨a, ha, h1, h2⟩
        refine ⟨a, ha, h1, h2, ?_⟩
        cases a with
        | zero => simp [eqI] at h; simp at h2; exact absurd h2 h
        | succ a => omega
    · simp only [if_true, List.mem_cons]
      rw [ih, tl]
      constructor
      · rintro (h1 | ⟨a, h, h1, h2, _⟩)
        · exact ⟨0, by simp, by simpa using h1, by simpa [eqI] using h⟩
        · exact ⟨a, h, h1, h2⟩
      · rintro ⟨a, ha, h1, h2⟩
        cases a with
        | zero => exact .inl (by simpa using h1)
        | succ a => exact .inr ⟨a + 1, ha, h1, h2, by omega⟩
end Go.TM.Lr

namespace Go.TM.Lr
open Go Go.TM Go.Proofs
set_option maxRecDepth 20000

def onM (l : List Step) (c : Chart) (i : Nat) : Nat := cntM c.acts 1 (kids4M i 0 l) 0
def ovM (l : List Step) (c : Chart) (i : Nat) : Nat := cntM c.acts 2 (kids4M i 0 l) 0

theorem wrong_iff {l : List Step} {c : Chart} {i : Nat} : wrong9 l c i = false ↔
    (szAt c.acts i ≠ 1 ∧ onM l c i + ovM l c i = 0 ∧ szAt c.dues i = 0) ∨
    (szAt c.acts i = 1 ∧
      (((kindOf l i = 1 ∨ kindOf l i = 3) ∧ onM l c i = 1 ∧ ovM l c i = 0 ∧ szAt c.dues i = 0) ∨
       (kindOf l i = 4 ∧ onM l c i ≠ 0 ∧ onM l c i + ovM l c i = (kids4M i 0 l).length ∧ szAt c.dues i = 0) ∨
       (kindOf l i = 8 ∧ onM l c i = 1 ∧ ovM l c i = 0 ∧ (szAt c.dues i ≠ 0 ↔ szAt c.acts (szAt (kids4M i 0 l) 0) = 1)) ∨
       (kindOf l i = 6 ∧ szAt c.dues i ≠ 0) ∨
       (kindOf l i ≠ 1 ∧ kindOf l i ≠ 3 ∧ kindOf l i ≠ 4 ∧ kindOf l i ≠ 8 ∧ kindOf l i ≠ 6 ∧ kindOf l i ≠ 7 ∧ szAt c.dues i = 0))) := by
  unfold wrong9 wrongK
  rw [show cntM c.acts 1 (kids4M i 0 l) 0 = onM l c i from rfl, show cntM c.acts 2 (kids4M i 0 l) 0 = ovM l c i from rfl]
  generalize onM l c i = on
  generalize ovM l c i = ov
  generalize kindOf l i = k
  generalize szAt c.acts i = ac
  generalize szAt c.dues i = du
  generalize hks : kids4M i 0 l = ks
  generalize szAt c.acts (szAt ks 0) = fa
  by_cases h1 : ac = 1
  · by_cases k1 : k = 1
    · simp [h1, k1, notB, eqI, orB, ltI]; omega
    by_cases k3 : k = 3
    · simp [h1, k3, notB, eqI, orB, ltI]; omega
    by_cases k4 : k = 4
    · simp [h1, k4, notB, eqI, orB, ltI]; omega
    by_cases k8 : k = 8
    · by_cases d0 : du = 0 <;> by_cases f0 : fa = 1 <;> simp [h1, k8, notB, eqI, orB, ltI, eqB, d0, f0] <;> first | omega | (intro _ _; rw [show (du == 0) = false by simp [d0], show (fa == 1) = false by simp [f0]])
    by_cases k6 : k = 6
    · simp [h1, k6, notB, eqI, orB]
    by_cases k7 : k = 7
    · simp [h1, k7, notB, eqI, orB]
    · simp [h1, k1, k3, k4, k8, k6, k7, notB, eqI, orB]
  · simp [h1, notB, eqI, orB, ltI]; omega

theorem fits_iff {l : List Step} {c : Chart} {i : Nat} (hk : kidsM i 0 l = kids4M i 0 l) : fitsM l c i = true ↔
    ¬ (szAt c.acts i = 2 ∧ (i = 0 ∨ kindOf l (parOf l i) ≠ 4)) ∧
    ((szAt c.acts i ≠ 1 ∧ onM l c i + ovM l c i = 0 ∧ szAt c.dues i = 0) ∨
     (szAt c.acts i = 1 ∧
      (((kindOf l i = 1 ∨ kindOf l i = 3) ∧ onM l c i = 1 ∧ szAt c.dues i = 0) ∨
       (kindOf l i = 4 ∧ onM l c i ≠ 0 ∧ onM l c i + ovM l c i = (kids4M i 0 l).length ∧ szAt c.dues i = 0) ∨
       (kindOf l i = 8 ∧ onM l c i = 1 ∧ (szAt c.dues i ≠ 0 ↔ szAt c.acts (szAt (kids4M i 0 l) 0) = 1)) ∨
       (kindOf l i = 6 ∧ szAt c.dues i ≠ 0) ∨
       (kindOf l i ≠ 1 ∧ kindOf l i ≠ 3 ∧ kindOf l i ≠ 4 ∧ kindOf l i ≠ 8 ∧ kindOf l i ≠ 6 ∧ kindOf l i ≠ 7 ∧ szAt c.dues i = 0)))) := by
  unfold fitsM fitsK
  rw [hk]
  rw [show cntM c.acts 1 (kids4M i 0 l) 0 = onM l c i from rfl, show cntM c.acts 2 (kids4M i 0 l) 0 = ovM l c i from rfl]
  generalize onM l c i = on
  generalize ovM l c i = ov
  generalize kindOf l i = k
  generalize szAt c.acts i = ac
  generalize szAt c.dues i = du
  generalize hks : kids4M i 0 l = ks
  generalize szAt c.acts (szAt ks 0) = fa
  generalize kindOf l (parOf l i) = pk
  have hb : andB (eqI ac 2) (orB (eqI i 0) (notB (eqI pk 4))) = true ↔ ac = 2 ∧ (i = 0 ∨ pk ≠ 4) := by
    simp [andB, orB, notB, eqI]
  by_cases q : ac = 2 ∧ (i = 0 ∨ pk ≠ 4)
  · rw [if_pos (hb.2 q)]
    simp [q]
  · rw [if_neg (fun h => q (hb.1 h))]
    simp only [q, not_false_eq_true, true_and]
    by_cases h1 : ac = 1
    · by_cases k1 : k = 1
      · by_cases o1 : on = 1 <;> by_cases d0 : du = 0 <;> simp [h1, k1, notB, eqI, orB, eqB, o1, d0] <;> omega
      by_cases k3 : k = 3
      · by_cases o1 : on = 1 <;> by_cases d0 : du = 0 <;> simp [h1, k3, notB, eqI, orB, eqB, o1, d0] <;> omega
      by_cases k4 : k = 4
      · by_cases o1 : on = 0 <;> by_cases o2 : on + ov = ks.length <;> by_cases d0 : du = 0 <;> simp [h1, k4, notB, eqI, orB, eqB, o1, o2, d0] <;> omega
      by_cases k8 : k = 8
      · by_cases o1 : on = 1 <;> by_cases d0 : du = 0 <;> by_cases f0 : fa = 1 <;> simp [h1, k8, notB, eqI, orB, eqB, o1, d0, f0] <;> first | omega | (rw [show (du == 0) = false by simp [d0], show (fa == 1) = false by simp [f0]])
      by_cases k6 : k = 6
      · by_cases d0 : du = 0 <;> simp [h1, k6, notB, eqI, orB, eqB, d0]
      by_cases k7 : k = 7
      · simp [h1, k7, notB, eqI, orB]
      · by_cases d0 : du = 0 <;> simp [h1, k1, k3, k4, k8, k6, k7, notB, eqI, orB, eqB, d0]
    · by_cases d0 : du = 0 <;> simp [h1, notB, eqI, andB, d0] <;> omega

theorem wrongs_iff (l : List Step) (c : Chart) : ∀ (f i : Nat), wrongs9 l c f i = false ↔ ∀ k, i ≤ k → k < i + f → wrong9 l c k = false
  | 0, i => by simp [wrongs9]; intro k h1 h2; omega
  | f + 1, i => by
    unfold wrongs9
    have ih := wrongs_iff l c f (i + 1)
    cases h : wrong9 l c i
    · simp only [Bool.false_eq_true, if_false]
      rw [ih]
      constructor
      · intro hh k h1 h2
        rcases Nat.lt_or_ge i k with h' | h'
        · exact hh k h' (by omega)
        · have e : k = i := by omega
          subst e; exact h
      · intro hh k h1 h2; exact hh k (by omega) (by omega)
    · simp only [if_true]
      constructor
      · intro h'; simp at h'
      · intro hh; have := hh i (Nat.le_refl _) (by omega); rw [h] at this; simp at this

theorem allFit_iff (l : List Step) (c : Chart) : ∀ (f i : Nat), allFit l c f i = true ↔ ∀ k, i ≤ k → k < i + f → fitsM l c k = true
  | 0, i => by simp [allFit]; intro k h1 h2; omega
  | f + 1, i => by
    unfold allFit
    have ih := allFit_iff l c f (i + 1)
    cases h : fitsM l c i
    · simp only [Bool.false_eq_true, if_false]
      constructor
      · intro h'; simp at h'
      · intro hh; have := hh i (Nat.le_refl _) (by omega); rw [h] at this; simp at this
    · simp only [if_true]
      rw [ih]
      constructor
      · intro hh k h1 h2
        rcases Nat.lt_or_ge i k with h' | h'
        · exact hh k h' (by omega)
        · have e : k = i := by omega
          subst e; exact h
      · intro hh k h1 h2; exact hh k (by omega) (by omega)

theorem proc_kids {l : List Step} (ok : ProcOk l) (i : Nat) : kidsM i 0 l = kids4M i 0 l := kids_same l 0 fun _ s hs => by
  have := ok.par0 (by have := ok.pos; omega)
  have h0 : 0 < l.length := by have := ok.pos; omega
  have e : l[0]? = some l[0] := by simp
  rw [e] at hs
  have := Option.some.inj hs
  subst this
  omega

/-- A step of a kind that has no kids has none. -/
theorem no_kids {l : List Step} (ok : ProcOk l) {i : Nat} (hi : i < l.length) (h1 : kindOf l i ≠ 1) (h3 : kindOf l i ≠ 3) (h4 : kindOf l i ≠ 4) (h8 : kindOf l i ≠ 8) : kids4M i 0 l = [] := by
  have hc := ok.cond i hi
  unfold condFaultM at hc
  have hcode : condCode l i = 0 := by
    split at hc
    · exact hc
    · rename_i c
      simp [orB, notB, eqI] at c
      exact c.1
  have := (first2_zero hcode).1
  have hb : kidB (kindOf l i) = (0, 0) := by
    unfold kidB
    simp [eqI, h1, h3, h4, h8]
  rw [hb] at this
  have hn : notB (inR (kidsM i 0 l).length 0 0) = false := by
    cases h : notB (inR (kidsM i 0 l).length 0 0)
    · rfl
    · rw [h] at this; simp at this
  rw [proc_kids ok] at hn
  simp [notB, inR, andB, leI] at hn
  exact List.length_eq_zero_iff.1 (by simpa using hn)

theorem fit_wrong {l : List Step} (ok : ProcOk l) {c : Chart} (h0 : szAt c.acts 0 = 1) : allFit l c l.length 0 = true ↔ wrongs9 l c l.length 0 = false := by
  rw [allFit_iff, wrongs_iff]
  constructor
  · intro hf k _ hk
    have hk : k < l.length := by omega
    obtain ⟨_, h2⟩ := (fits_iff (proc_kids ok k)).1 (hf k (Nat.zero_le _) (by omega))
    have hov : kindOf l k ≠ 4 → ovM l c k = 0 := fun hk4 => by
      rcases Nat.eq_zero_or_pos (ovM l c k) with h | h
      · exact h
      · exfalso
        obtain ⟨x, hx, ha⟩ := (cnt_pos _ _ _ _).1 h
        obtain ⟨a, hal, rfl, hp⟩ := kids4_iff.1 hx
        rw [Nat.zero_add] at ha
        have ha0 : a ≠ 0 := fun h => by subst h; simp at ha; rw [h0] at ha; omega
        obtain ⟨h1, _⟩ := (fits_iff (proc_kids ok a)).1 (hf a (Nat.zero_le _) (by omega))
        have hpa : parOf l a = k := by simp [parOf, hal, hp]
        exact h1 ⟨ha, .inr (by rw [hpa]; exact hk4)⟩
    rw [wrong_iff]
    rcases h2 with h | ⟨ha, h⟩
    · exact .inl h
    · right
      refine ⟨ha, ?_⟩
      rcases h with ⟨hk1, h⟩ | h | ⟨hk8, h⟩ | h | h
      · exact .inl ⟨hk1, h.1, hov (by omega), h.2⟩
      · exact .inr (.inl h)
      · exact .inr (.inr (.inl ⟨hk8, h.1, hov (by omega), h.2⟩))
      · exact .inr (.inr (.inr (.inl h)))
      · exact .inr (.inr (.inr (.inr h)))
  · intro hw k _ hk
    have hk : k < l.length := by omega
    have h2 := wrong_iff.1 (hw k (Nat.zero_le _) (by omega))
    rw [fits_iff (proc_kids ok k)]
    refine ⟨fun ⟨ha, hor⟩ => ?_, ?_⟩
    · have hk0 : k ≠ 0 := fun h => by subst h; simp at ha; rw [h0] at ha; omega
      obtain ⟨a, hp, hak⟩ := ok.par k hk (by omega)
      have hal : a < l.length := by omega
      have hmem : (k : Int) ∈ kids4M a 0 l := kids4_iff.2 ⟨k, hk, by simp, hp⟩
      have hpa : parOf l k = a := by simp [parOf, hk, hp]
      have hov : 0 < ovM l c a := (cnt_pos _ _ _ _).2 ⟨k, hmem, ha⟩
      have hw2 := wrong_iff.1 (hw a (Nat.zero_le _) (by omega))
      rw [hpa] at hor
      have hnk : ∀ h : kids4M a 0 l = [], False := fun h => by rw [h] at hmem; simp at hmem
      rcases hw2 with h | ⟨_, ⟨_, h⟩ | h | ⟨_, h⟩ | h | h⟩
      · omega
      · omega
      · rcases hor with h' | h'
        · omega
        · exact h' h.1
      · omega
      · exact hnk (no_kids ok hal (by omega) (by omega) (by omega) (by omega))
      · exact hnk (no_kids ok hal h.1 h.2.1 h.2.2.1 h.2.2.2.1)
    · rcases h2 with h | ⟨ha, h⟩
      · exact .inl h
      · right
        refine ⟨ha, ?_⟩
        rcases h with ⟨hk1, h⟩ | h | ⟨hk8, h⟩ | h | h
        · exact .inl ⟨hk1, h.1, h.2.2⟩
        · exact .inr (.inl h)
        · exact .inr (.inr (.inl ⟨hk8, h.1, h.2.2⟩))
        · exact .inr (.inr (.inr (.inl h)))
        · exact .inr (.inr (.inr (.inr h)))

theorem chart_same (l : List Step) (c : Chart) : fault9 l c = chartM l c := by
  have hq : ¬ (notB (eqI (0 : Int) 0) = true) := by simp [notB, eqI]
  have hff : ¬ (false = true) := by simp
  unfold fault9 chartM chartA
  rw [fault_same, vars_same]
  by_cases h1 : procM l = 0
  · have ok := proc_ok h1
    rw [h1, if_neg hq]
    cases q2 : orB (notB (inR c.status 1 3)) (notB (inR c.now 0 1000000))
    · rw [if_neg hff]
      by_cases h3 : varsM c.vars = 0
      · rw [h3, if_neg hq]
        cases q4 : orB (notB (eqI c.acts.length l.length)) (notB (eqI c.dues.length l.length))
        · have hl : c.acts.length = l.length ∧ c.dues.length = l.length := by
            simp [orB, notB, eqI] at q4; omega
          have e0 : first2 0 (first2 (ci false 3) (first2 0 (ci false 2))) = 0 := by rfl
          rw [if_neg hff, rng_same hl.1 hl.2, some_same hl.1 hl.2, e0, if_neg hq]
          cases orB (notB (smS 2 c.acts)) (notB (smS (c.now + 99) c.dues))
          · rw [if_neg hff, if_neg hff]
            unfold ordM
            by_cases h5 : c.status = 1
            · have hs : ¬ (notB (eqI c.status 1) = true) := by simp [notB, eqI, h5]
              rw [if_neg hs, if_neg hs]
              by_cases h6 : szAt c.acts 0 = 1
              · have hs2 : ¬ (notB (eqI (szAt c.acts 0) 1) = true) := by simp [notB, eqI, h6]
                have hs3 : eqI (szAt c.acts 0) 1 = true := by simp [eqI, h6]
                rw [if_neg hs2, hs3]
                have hfw := fit_wrong ok h6
                cases q6 : wrongs9 l c l.length 0
                · rw [hfw.2 q6]; rfl
                · cases q7 : allFit l c l.length 0
                  · rfl
                  · rw [hfw.1 q7] at q6; simp at q6
              · have hs2 : notB (eqI (szAt c.acts 0) 1) = true := by simp [notB, eqI, h6]
                have : eqI (szAt c.acts 0) 1 = false := by simp [eqI, h6]
                rw [if_pos hs2, this]
                cases allFit l c l.length 0 <;> rfl
            · have hs : notB (eqI c.status 1) = true := by simp [notB, eqI, h5]
              rw [if_pos hs, if_pos hs]
              cases andB (smS 0 c.acts) (smS 0 c.dues) <;> rfl
          · rfl
        · rfl
      · have e1 : first2 0 (first2 (ci false 3) (first2 (varsM c.vars) (ci (orB (notB (eqI c.acts.length l.length)) (notB (eqI c.dues.length l.length))) 2))) = varsM c.vars := by
          have : eqI (varsM c.vars) 0 = false := by simp [eqI, h3]
          simp [first2, ci, eqI_self, this]
        have hs : notB (eqI (varsM c.vars) 0) = true := by simp [notB, eqI, h3]
        rw [e1, if_pos hs, if_pos hs]
    · have e1 : first2 0 (first2 (ci true 3) (first2 (varsM c.vars) (ci (orB (notB (eqI c.acts.length l.length)) (notB (eqI c.dues.length l.length))) 2))) = 3 := by rfl
      rw [e1]; rfl
  · have e1 : ∀ b, first2 (procM l) b = procM l := fun b => by
      have : eqI (procM l) 0 = false := by simp [eqI, h1]
      simp [first2, this]
    have hs : notB (eqI (procM l) 0) = true := by simp [notB, eqI, h1]
    rw [e1, if_pos hs, if_pos hs]
end Go.TM.Lr
