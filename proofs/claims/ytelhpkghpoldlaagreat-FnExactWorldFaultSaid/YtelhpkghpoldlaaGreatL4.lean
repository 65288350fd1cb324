import Derived.Test.YtelhpkghpoldlaaGreatL3
import Derived.Test.YtelhpkghpoldlaaGreatTm4

namespace Go.TM.Lr
open Go Go.TM Go.Proofs
set_option maxRecDepth 20000
attribute [local congr] gif_cg
attribute [local simp] footOf noClash clash upsets setsHit setHits layHits layMeets setsMeet evFeet

theorem inst_same (e : Engine) (x : Inst) : inst4M e x = instM e x := by
  unfold inst4M instM instCode
  rw [chart_same]
  cases inR x.proc 0 ((e.procs.length : Int) - 1)
  · rfl
  · by_cases h : chartM (stepsOf e x) x.chart = 0
    · rw [h]
      cases eqI x.chart.now e.now <;> rfl
    · have : eqI (chartM (stepsOf e x) x.chart) 0 = false := by simp [eqI, h]
      simp [notB, first2, this]
theorem insts_same (e : Engine) : ∀ l, insts4M e l = instsM e l
  | [] => rfl
  | x :: l => by
    unfold insts4M instsM
    rw [inst_same, insts_same e l]
theorem procs_same : ∀ l, procs4M l = procsM l
  | [] => rfl
  | x :: l => by
    unfold procs4M procsM
    rw [fault_same, procs_same l]
theorem procsF_same (l : List (List Step)) : procs4F l = procsF l := by
  unfold procs4F procsF
  rw [procs_same]
  by_cases h : 1 ≤ l.length ∧ l.length ≤ 3
  · rw [if_neg (by simp [orB, ltI]; omega), if_neg (by simp [notB, inR, andB, leI]; omega)]
  · rw [if_pos (by simp [orB, ltI]; omega), if_pos (by simp [notB, inR, andB, leI]; omega)]

theorem eng_same (e : Engine) : eng4M e = engM e := by
  unfold eng4M engM engA
  rw [insts_same, procsF_same]
  cases q1 : ltI 6 e.insts.length
  · by_cases q2 : procsF e.procs = 0
    · have q3 : inR e.procs.length 1 3 = true := by
        unfold procsF at q2
        split at q2
        · simp at q2
        · rename_i c; simpa [notB] using c
      rw [q2, q3]
      cases inR e.now 0 1000000 <;> rfl
    · have e0 : eqI (procsF e.procs) 0 = false := by simp [eqI, q2]
      have e1 : first2 (procsF e.procs) (ci (notB (inR e.now 0 1000000)) 3) = procsF e.procs := by simp [first2, e0]
      rw [e1, e0]
      cases q3 : inR e.procs.length 1 3
      · unfold procsF; rw [q3]; rfl
      · rfl
  · cases inR e.procs.length 1 3 <;> rfl

theorem ahead_cmp (a b : Claim) : leI 0 (cmpC a b) = notB (aheadM a b) := by
  unfold cmpC aheadM cmpI first2
  rcases Int.lt_trichotomy a.inst b.inst with h | h | h
  · simp [ltI, h, eqI, leI, notB, orB]
  · rcases Int.lt_trichotomy a.step b.step with h2 | h2 | h2
    · simp [ltI, h, h2, eqI, leI, notB, orB, andB]
    · simp [ltI, h, h2, eqI, leI, notB, orB, andB]
    · have : ¬ a.step < b.step := by omega
      simp [ltI, h, h2, this, eqI, leI, notB, orB, andB]
  · have h1 : ¬ a.inst < b.inst := by omega
    have h2 : ¬ a.inst = b.inst := by omega
    simp [ltI, h, h1, h2, eqI, leI, notB, orB, andB]

set_option maxHeartbeats 4000000 in
theorem lp21 (d : Desk) (hf : FitE d.eng) (h0 : engM d.eng = 0) (hcl : d.claims.length ≤ 60) : ∀ (rest : List Claim) (i : Nat), d.claims.drop i = rest →
    evLoop E (orc E) (21 : Nat) (rest.length + 1) (loopOf Tryz.f21 0) ⟨76, [(0, .ipt (dT d)), (4, vI i)], [], 2⟩ =
    (if eqI (claimsM d i rest) 0 = true then some (.exit 0, ⟨76, [(0, .ipt (dT d)), (4, vI (i + rest.length : Nat)), (25, vB false)], [], 2⟩)
     else some (.ret, ⟨76, [(2, vI (claimsM d i rest))], [], 2⟩))
  | [], i, h => by
    have hge : d.claims.length ≤ i := by simpa using h
    have hlt : ltI (i : Int) (d.claims.length : Int) = false := ltI_f (by omega)
    rw [loop_eq]
    simp +contextual -dsimp [Tryz.f21, hlt, claimsM, eqI_self]
  | x :: rest, i, h => by
    obtain ⟨hi, hc, hr⟩ := drop_cons h
    obtain ⟨n1, n2, n3⟩ := engM_zero h0
    have hlt : ltI (i : Int) (d.claims.length : Int) = true := ltI_t (by omega)
    have hw : IntKind.i64.wrap ((i : Int) + 1) = ((i + 1 : Nat) : Int) := by rw [wrapI] <;> omega
    have hwi : IntKind.i64.wrap ((d.eng.insts.length : Int) - 1) = (d.eng.insts.length : Int) - 1 := by rw [wrapI] <;> omega
    have he : i + 1 + rest.length = i + (rest.length + 1) := by omega
    have out : ∀ k : Int, claimM d i x = k → eqI k 0 = false → claimsM d i (x :: rest) = k := fun k h1 h2 => by simp [claimsM, h1, h2]
    cases q1 : inR x.inst 0 ((d.eng.insts.length : Int) - 1)
    · have h3 : claimM d i x = 3 := by simp [claimM, q1, notB, orB]
      have hm := out 3 h3 rfl
      have h30 : eqI (3 : Int) 0 = false := rfl
      rw [hm, h30, if_neg (by simp)]
      refine evLoop_out ?_ (by simp)
      simp (maxSteps := 1000000) +contextual -dsimp [Tryz.f21, hlt, hi, hc, hwi, f_l1In, q1, List.set]
    cases q2 : inR x.user 1 9
    · have h3 : claimM d i x = 3 := by simp [claimM, q1, q2, notB, orB]
      have hm := out 3 h3 rfl
      have h30 : eqI (3 : Int) 0 = false := rfl
      rw [hm, h30, if_neg (by simp)]
      refine evLoop_out ?_ (by simp)
      simp (maxSteps := 1000000) +contextual -dsimp [Tryz.f21, hlt, hi, hc, hwi, f_l1In, f_l12User, q1, q2, List.set]
    obtain ⟨b, hb, hbl⟩ : ∃ b : Nat, x.inst = b ∧ b < d.eng.insts.length := by
      simp [inR, andB, leI] at q1
      obtain ⟨k, hk⟩ := Int.eq_ofNat_of_zero_le q1.1
      exact ⟨k, hk, by omega⟩
    obtain ⟨a, ha, hx, e2, ok, hlen⟩ := (n3 (d.eng.insts[b]) (List.getElem_mem _)).at_
    have g1 := f_l12Open d.eng [.sl 92 (d.claims.map kT)] b hbl a hx ha (by have := ok.le; omega) hlen x.step
    rw [← hb] at g1
    have g2 := f_l12Ahead (clAt d.claims (i - 1)) x
    cases q3 : isOpenM d.eng x.inst x.step
    · have h3 : claimM d i x = 4 := by simp [claimM, q1, q2, q3, notB, orB]
      have hm := out 4 h3 rfl
      have h30 : eqI (4 : Int) 0 = false := rfl
      rw [hm, h30, if_neg (by simp)]
      refine evLoop_out ?_ (by simp)
      simp (maxSteps := 1000000) +contextual -dsimp [Tryz.f21, hlt, hi, hc, hwi, f_l1In, f_l12User, g1, q1, q2, q3, List.set]
    rcases Nat.eq_zero_or_pos i with hi0 | hi0
    · have hl0 : ltI 0 (i : Int) = false := ltI_f (by omega)
      have h3 : claimM d i x = 0 := by simp [claimM, q1, q2, q3, hl0, notB, orB, andB]
      have ih := lp21 d hf h0 hcl rest (i + 1) hr
      rw [he] at ih
      have hm : claimsM d i (x :: rest) = claimsM d (i + 1) rest := by simp [claimsM, h3, eqI_self]
      rw [hm]
      refine evLoop_next ?_ (by simpa only [List.length_cons] using ih)
      simp (maxSteps := 1000000) +contextual -dsimp [Tryz.f21, hlt, hi, hc, hw, hwi, f_l1In, f_l12User, g1, q1, q2, q3, hl0, List.set]
    · have hl0 : ltI 0 (i : Int) = true := ltI_t (by omega)
      have hi1 : i - 1 < d.claims.length := by omega
      have hw1 : IntKind.i64.wrap ((i : Int) - 1) = ((i - 1 : Nat) : Int) := by rw [wrapI] <;> omega
      have hcl1 : clAt d.claims (i - 1) = d.claims[i - 1] := by simp [clAt, hi1]
      rw [hcl1] at g2
      cases q4 : aheadM (d.claims[i - 1]) x
      · have h3 : claimM d i x = 1 := by simp [claimM, q1, q2, q3, hl0, hcl1, ahead_cmp, q4, notB, orB, andB]
        have hm := out 1 h3 rfl
        have h30 : eqI (1 : Int) 0 = false := rfl
        rw [hm, h30, if_neg (by simp)]
        refine evLoop_out ?_ (by simp)
        simp (maxSteps := 1000000) +contextual -dsimp [Tryz.f21, hlt, hi, hc, hwi, f_l1In, f_l12User, g1, g2, q1, q2, q3, q4, hl0, hi1, hw1, List.set]
      · have h3 : claimM d i x = 0 := by simp [claimM, q1, q2, q3, hl0, hcl1, ahead_cmp, q4, notB, orB, andB]
        have ih := lp21 d hf h0 hcl rest (i + 1) hr
        rw [he] at ih
        have hm : claimsM d i (x :: rest) = claimsM d (i + 1) rest := by simp [claimsM, h3, eqI_self]
        rw [hm]
        refine evLoop_next ?_ (by simpa only [List.length_cons] using ih)
        simp (maxSteps := 1000000) +contextual -dsimp [Tryz.f21, hlt, hi, hc, hw, hwi, f_l1In, f_l12User, g1, g2, q1, q2, q3, q4, hl0, hi1, hw1, List.set]

theorem f_l12Fault (d : Desk) (hf : FitE d.eng) (hc : d.claims.length < 2 ^ 62) : fo 21 [A (.ipt (dT d))] = some (R (vI (deskM d))) := by
  have g1 := f_l11Fault d.eng [.sl 92 (d.claims.map kT)] hf
  rw [eng_same] at g1
  unfold deskM deskA
  refine orc_21 (d.claims.length + 1) ?_
  cases q1 : eqI (engM d.eng) 0
  · simp (maxSteps := 1000000) +contextual -dsimp [Tryz.f21, g1, q1, first2]
  · have e0 : engM d.eng = 0 := by simpa [eqI] using q1
    cases q2 : ltI 60 d.claims.length
    · have hlp := lp21 d hf e0 (by simp [ltI] at q2; omega) d.claims 0 rfl
      simp -dsimp [Tryz.f21] at hlp
      cases q4 : eqI (claimsM d 0 d.claims) 0
      · rw [q4] at hlp
        simp (maxSteps := 1000000) +contextual -dsimp [Tryz.f21, g1, e0, q2, eqI_self, first2, ci, hlp]
      · rw [q4] at hlp
        have e1 : claimsM d 0 d.claims = 0 := by simpa [eqI] using q4
        simp (maxSteps := 1000000) +contextual -dsimp [Tryz.f21, g1, e0, q2, e1, eqI_self, first2, ci, hlp]
    · have h20 : eqI (2 : Int) 0 = false := rfl
      simp (maxSteps := 1000000) +contextual -dsimp [Tryz.f21, g1, e0, q2, eqI_self, first2, ci, h20]
end Go.TM.Lr

namespace Go.TM.Lr
open Go Go.TM Go.Proofs
set_option maxRecDepth 20000
attribute [local congr] gif_cg
attribute [local simp] footOf noClash clash upsets setsHit setHits layHits layMeets setsMeet evFeet

set_option maxHeartbeats 2000000 in
theorem lp7 (d : Desk) (hok : ∀ x, x ∈ d.eng.insts → InstOk d.eng x) (hn : d.eng.insts.length ≤ 6) : ∀ (rest : List Inst) (i : Nat), d.eng.insts.drop i = rest →
    evLoop E (orc E) (7 : Nat) (rest.length + 1) (loopOf Tryz.f7 0) ⟨44, [(1, .ptr 1 1 [] 0), (3, vI i)], [(1, ⟨1, 1, true, dT d⟩)], 2⟩ =
    (if livesM d.eng rest = true then some (.exit 0, ⟨44, [(1, .ptr 1 1 [] 0), (3, vI (i + rest.length : Nat)), (12, vB false)], [(1, ⟨1, 1, true, dT d⟩)], 2⟩)
     else some (.ret, ⟨44, [(2, vB false)], [], 2⟩))
  | [], i, h => by
    have hge : d.eng.insts.length ≤ i := by simpa using h
    have hlt : ltI (i : Int) (d.eng.insts.length : Int) = false := ltI_f (by omega)
    rw [loop_eq]
    simp +contextual -dsimp [Tryz.f7, hlt, livesM]
  | x :: rest, i, h => by
    obtain ⟨hi, hc, hr⟩ := drop_cons h
    have hlt : ltI (i : Int) (d.eng.insts.length : Int) = true := ltI_t (by omega)
    have hw : IntKind.i64.wrap ((i : Int) + 1) = ((i + 1 : Nat) : Int) := by rw [wrapI] <;> omega
    have he : i + 1 + rest.length = i + (rest.length + 1) := by omega
    obtain ⟨a, ha, hx, e2, ok, hlen⟩ := (hok x (by rw [← hc]; exact List.getElem_mem _)).at_
    have hle := ok.le
    have g2 := f_l9Open (d.eng.procs[a]) (by omega) x.chart hlen
    have hse := seal4_iE (opensM x.chart.acts 0 (d.eng.procs[a]))
    have eo : nOpen d.eng x = (opensM x.chart.acts 0 (d.eng.procs[a])).length := by simp [nOpen, e2]
    cases q1 : eqI x.chart.status 1
    · have hm : livesM d.eng (x :: rest) = livesM d.eng rest := by simp [livesM, q1, andB]
      have ih := lp7 d hok hn rest (i + 1) hr
      rw [he] at ih
      rw [hm]
      refine evLoop_next ?_ (by simpa only [List.length_cons] using ih)
      simp (maxSteps := 1000000) +contextual -dsimp [Tryz.f7, hlt, hi, hc, hw, q1]
    · cases q2 : eqI (nOpen d.eng x) 0
      · have hm : livesM d.eng (x :: rest) = livesM d.eng rest := by simp [livesM, q1, q2, andB]
        have ih := lp7 d hok hn rest (i + 1) hr
        rw [he] at ih
        rw [hm]
        rw [eo] at q2
        refine evLoop_next ?_ (by simpa only [List.length_cons] using ih)
        simp (maxSteps := 1000000) +contextual -dsimp [Tryz.f7, hlt, hi, hc, hw, hx, ha, g2, hse, q1, q2]
      · have hm : livesM d.eng (x :: rest) = false := by simp [livesM, q1, q2, andB]
        rw [hm, if_neg (by simp)]
        rw [eo] at q2
        refine evLoop_out ?_ (by simp)
        simp (maxSteps := 1000000) +contextual -dsimp [Tryz.f7, hlt, hi, hc, hx, ha, g2, hse, q1, q2]

theorem f4_LiveRight (d : Desk) (hf : FitE d.eng) (hc : d.claims.length < 2 ^ 62) : fo 7 [A (.agg (dT d))] = some (R (vB (liveM d))) := by
  have g1 := f_l12Fault d hf hc
  unfold liveM
  refine orc_7 (d.eng.insts.length + 1) ?_
  cases q1 : eqI (deskM d) 0
  · simp (maxSteps := 1000000) +contextual -dsimp [Tryz.f7, g1, q1]
  · have e0 : deskM d = 0 := by simpa [eqI] using q1
    obtain ⟨n1, n2, n3⟩ := engM_zero (deskM_zero e0)
    have hlp := lp7 d n3 n2 d.eng.insts 0 rfl
    simp -dsimp [Tryz.f7] at hlp
    cases q4 : livesM d.eng d.eng.insts
    · rw [q4] at hlp
      simp (maxSteps := 1000000) +contextual -dsimp [Tryz.f7, g1, e0, eqI_self, hlp]
    · rw [q4] at hlp
      simp (maxSteps := 1000000) +contextual -dsimp [Tryz.f7, g1, e0, eqI_self, hlp]

set_option maxHeartbeats 2000000 in
theorem lp11 (d : Desk) (hok : ∀ x, x ∈ d.eng.insts → InstOk d.eng x) (hn : d.eng.insts.length ≤ 6) : ∀ (rest : List Inst) (i n : Nat), d.eng.insts.drop i = rest → n ≤ 24 * i →
    evLoop E (orc E) (11 : Nat) (rest.length + 1) (loopOf Tryz.f11 0) ⟨44, [(1, .ptr 1 1 [] 0), (2, .ptr 2 1 [] 0), (4, vI n), (5, vI i)], [(1, ⟨1, 1, true, dT d⟩), (2, ⟨1, 1, true, [vI 0, vI 0]⟩)], 2⟩ =
    some (.exit 0, ⟨44, [(1, .ptr 1 1 [] 0), (2, .ptr 2 1 [] 0), (4, vI (n + countsM d.eng rest : Nat)), (5, vI (i + rest.length : Nat)), (17, vB false)], [(1, ⟨1, 1, true, dT d⟩), (2, ⟨1, 1, true, [vI 0, vI 0]⟩)], 2⟩)
  | [], i, n, h, hb => by
    have hge : d.eng.insts.length ≤ i := by simpa using h
    have hlt : ltI (i : Int) (d.eng.insts.length : Int) = false := ltI_f (by omega)
    rw [loop_eq]
    simp +contextual -dsimp [Tryz.f11, hlt, countsM]
  | x :: rest, i, n, h, hb => by
    obtain ⟨hi, hc, hr⟩ := drop_cons h
    have hlt : ltI (i : Int) (d.eng.insts.length : Int) = true := ltI_t (by omega)
    have hw : IntKind.i64.wrap ((i : Int) + 1) = ((i + 1 : Nat) : Int) := by rw [wrapI] <;> omega
    have he : i + 1 + rest.length = i + (rest.length + 1) := by omega
    obtain ⟨a, ha, hx, e2, ok, hlen⟩ := (hok x (by rw [← hc]; exact List.getElem_mem _)).at_
    have hle := ok.le
    have g2 := f_l9Open (d.eng.procs[a]) (by omega) x.chart hlen
    have hse := seal4_iE (opensM x.chart.acts 0 (d.eng.procs[a]))
    have eo : nOpen d.eng x = (opensM x.chart.acts 0 (d.eng.procs[a])).length := by simp [nOpen, e2]
    have hfew := opens_few x.chart.acts (d.eng.procs[a]) 0
    have hw2 : IntKind.i64.wrap ((n : Int) + ((opensM x.chart.acts 0 (d.eng.procs[a])).length : Int)) = ((n + nOpen d.eng x : Nat) : Int) := by rw [wrapI] <;> omega
    have ih := lp11 d hok hn rest (i + 1) (n + nOpen d.eng x) hr (by omega)
    rw [he] at ih
    have hm : n + countsM d.eng (x :: rest) = n + nOpen d.eng x + countsM d.eng rest := by simp [countsM]; omega
    rw [hm]
    refine evLoop_next ?_ (by simpa only [List.length_cons] using ih)
    simp (maxSteps := 1000000) +contextual -dsimp [Tryz.f11, hlt, hi, hc, hw, hx, ha, g2, hse, hw2]

theorem f4_CountOpen (d : Desk) (hf : FitE d.eng) (hc : d.claims.length < 2 ^ 62) : fo 11 [A (.agg (dT d))] = some (RI (countM d).1 (countM d).2) := by
  have g1 := f_l12Fault d hf hc
  unfold countM
  refine orc_11 (d.eng.insts.length + 1) ?_
  cases q1 : eqI (deskM d) 0
  · simp (maxSteps := 1000000) +contextual -dsimp [Tryz.f11, g1, q1, List.set]
  · have e0 : deskM d = 0 := by simpa [eqI] using q1
    obtain ⟨n1, n2, n3⟩ := engM_zero (deskM_zero e0)
    have hlp := lp11 d n3 n2 d.eng.insts 0 0 rfl (by omega)
    simp -dsimp [Tryz.f11] at hlp
    simp (maxSteps := 1000000) +contextual -dsimp [Tryz.f11, g1, e0, eqI_self, hlp, List.set]
end Go.TM.Lr

namespace Go.TM.Lr
open Go Go.TM Go.Proofs
abbrev eTl (e : Engine) : List T := [.sl 120 (e.procs.map (pT 162 206)), .sl 124 (e.insts.map xT), vI e.now]
abbrev dTl (d : Desk) : List T := [.sl 120 (d.eng.procs.map (pT 162 206)), .sl 124 (d.eng.insts.map xT), vI d.eng.now, .sl 103 (d.claims.map kT)]
end Go.TM.Lr

namespace Go.TM.Lr
open Go Go.TM Go.Proofs
set_option maxRecDepth 20000
attribute [local congr] gif_cg
attribute [local simp] footOf noClash clash upsets setsHit setHits layHits layMeets setsMeet evFeet

abbrev iV (n : Int) : List T := [vI n]
def subM (left : Int) (w : Nat) : Int := if ltI (left - w) 0 = true then -1 else left - w
theorem sub_f {left : Int} {w : Nat} (c : ltI (subM left w) 0 = false) : (w : Int) ≤ left ∧ subM left w = left - w := by
  unfold subM at c ⊢
  split at c
  · simp [ltI] at c
  · rename_i h; rw [if_neg h]; simp [ltI] at h; exact ⟨by omega, rfl⟩
theorem sub_t {left : Int} {w : Nat} (_h0 : 0 ≤ left) (c : ltI (subM left w) 0 = true) : left < (w : Int) := by
  unfold subM at c
  split at c
  · rename_i h; simp [ltI] at h; omega
  · rename_i h; exact absurd c h
theorem subM_n {left : Int} {w : Nat} (h : left < (w : Int)) : subM left w = -1 := by unfold subM; rw [if_pos (by simp [ltI]; omega)]
theorem subM_p {left : Int} {w : Nat} (h : (w : Int) ≤ left) : subM left w = left - w := by unfold subM; rw [if_neg (by simp [ltI]; omega)]
theorem subM_z {left : Int} (h : 0 ≤ left) : subM left 0 = left := by rw [subM_p (by simpa using h)]; simp
theorem subM_add (left : Int) (a b : Nat) : subM left (a + b) = subM (left - a) b := by
  have e : left - ((a + b : Nat) : Int) = left - a - b := by omega
  unfold subM; rw [e]

def wStep (x : Step) : Nat := x.name.size + x.cond.length + x.expr.length
def FwStep (x : Step) : Prop := x.name.size < 2 ^ 62 ∧ x.cond.length < 2 ^ 62 ∧ x.expr.length < 2 ^ 62
def sumStep : List Step → Nat
  | [] => 0
  | x :: r => wStep x + sumStep r
def wsStep (l : List Step) : Nat := l.length + sumStep l
theorem sumStep_mem {x : Step} : ∀ {l : List Step}, x ∈ l → wStep x ≤ sumStep l
  | [], h => by simp at h
  | y :: l, h => by
    unfold sumStep
    rcases List.mem_cons.1 h with rfl | h
    · omega
    · have := sumStep_mem h; omega
def wProc (x : List Step) : Nat := wsStep x
def FwProc (x : List Step) : Prop := (x.length < 2 ^ 62 ∧ ∀ y, y ∈ x → FwStep y)
def sumProc : List (List Step) → Nat
  | [] => 0
  | x :: r => wProc x + sumProc r
def wsProc (l : List (List Step)) : Nat := l.length + sumProc l
theorem sumProc_mem {x : List Step} : ∀ {l : List (List Step)}, x ∈ l → wProc x ≤ sumProc l
  | [], h => by simp at h
  | y :: l, h => by
    unfold sumProc
    rcases List.mem_cons.1 h with rfl | h
    · omega
    · have := sumProc_mem h; omega
def wChart (x : Chart) : Nat := x.vars.length + x.acts.length + x.dues.length
def FwChart (x : Chart) : Prop := x.vars.length < 2 ^ 62 ∧ x.acts.length < 2 ^ 62 ∧ x.dues.length < 2 ^ 62
def wInst (x : Inst) : Nat := wChart x.chart
def FwInst (x : Inst) : Prop := FwChart x.chart
def sumInst : List Inst → Nat
  | [] => 0
  | x :: r => wInst x + sumInst r
def wsInst (l : List Inst) : Nat := l.length + sumInst l
theorem sumInst_mem {x : Inst} : ∀ {l : List Inst}, x ∈ l → wInst x ≤ sumInst l
  | [], h => by simp at h
  | y :: l, h => by
    unfold sumInst
    rcases List.mem_cons.1 h with rfl | h
    · omega
    · have := sumInst_mem h; omega
def wEngine (x : Engine) : Nat := wsProc x.procs + wsInst x.insts
def FwEngine (x : Engine) : Prop := (x.procs.length < 2 ^ 62 ∧ ∀ y, y ∈ x.procs → FwProc y) ∧ (x.insts.length < 2 ^ 62 ∧ ∀ y, y ∈ x.insts → FwInst y)
def wDesk (x : Desk) : Nat := wEngine x.eng + x.claims.length
def FwDesk (x : Desk) : Prop := FwEngine x.eng ∧ x.claims.length < 2 ^ 62
theorem g_szintS (l : List Int) (left : Int) (h0 : 0 ≤ left) (h1 : left ≤ 1048576) (hl : l.length < 2 ^ 62) : fo 97 [A (.sl 2 (l.map iV)), A (vI left)] = some (R (vI (subM left l.length))) := by
  have hw : IntKind.i64.wrap (left - l.length) = left - l.length := by rw [wrapI] <;> omega
  refine orc_97 1 ?_
  simp (maxSteps := 1000000) +contextual -dsimp [Tryz.f97, subM, hw]

theorem g_szNodeS (l : List Node) (left : Int) (h0 : 0 ≤ left) (h1 : left ≤ 1048576) (hl : l.length < 2 ^ 62) : fo 118 [A (.sl 206 (l.map nT)), A (vI left)] = some (R (vI (subM left l.length))) := by
  have hw : IntKind.i64.wrap (left - l.length) = left - l.length := by rw [wrapI] <;> omega
  refine orc_118 1 ?_
  simp (maxSteps := 1000000) +contextual -dsimp [Tryz.f118, subM, hw]

theorem g_szStep (x : Step) (left : Int) (h0 : 0 ≤ left) (h1 : left ≤ 1048576) (hf : FwStep x) : fo 96 [A (.agg (sT 206 x)), A (vI left)] = some (R (vI (subM left (wStep x)))) := by
  unfold FwStep at hf
  refine orc_96 1 ?_
  have hw0 : IntKind.i64.wrap (left - (x.name.size : Nat)) = left - (x.name.size : Nat) := by have := hf.1; rw [wrapI] <;> omega
  cases c0 : ltI (left - (x.name.size : Nat)) 0
  · have p0 : ((x.name.size : Nat) : Int) ≤ left := by simp [ltI] at c0; omega
    have g1 := g_szNodeS x.cond (left - (x.name.size : Nat)) (by omega) (by omega) hf.2.1
    cases c1 : ltI (subM (left - (x.name.size : Nat)) (x.cond.length)) 0
    · obtain ⟨p1, e1⟩ := sub_f c1
      rw [e1] at g1 c1
      have g2 := g_szNodeS x.expr (left - (x.name.size : Nat) - (x.cond.length : Nat)) (by omega) (by omega) hf.2.2
      cases c2 : ltI (subM (left - (x.name.size : Nat) - (x.cond.length : Nat)) (x.expr.length)) 0
      · obtain ⟨p2, e2⟩ := sub_f c2
        rw [e2] at g2 c2
        have hm : subM left (wStep x) = left - (x.name.size : Nat) - (x.cond.length : Nat) - (x.expr.length : Nat) := by
          have := subM_p (left := left) (w := wStep x) (by simp only [wStep]; omega)
          simp only [wStep] at this ⊢; omega
        rw [hm]
        simp (maxSteps := 1000000) +contextual -dsimp [Tryz.f96, hw0, g1, g2, c0, c1, c2]
      · have n2 := sub_t (by omega) c2
        have hm : subM left (wStep x) = -1 := subM_n (by simp only [wStep]; omega)
        rw [hm]
        simp (maxSteps := 1000000) +contextual -dsimp [Tryz.f96, hw0, g1, g2, c0, c1, c2]
    · have n1 := sub_t (by omega) c1
      have hm : subM left (wStep x) = -1 := subM_n (by simp only [wStep]; omega)
      rw [hm]
      simp (maxSteps := 1000000) +contextual -dsimp [Tryz.f96, hw0, g1, c0, c1]
  · have hm : subM left (wStep x) = -1 := subM_n (by simp only [wStep]; simp [ltI] at c0; omega)
    rw [hm]
    simp (maxSteps := 1000000) +contextual -dsimp [Tryz.f96, hw0, c0]

theorem lszStepS (all : List Step) (hall : all.length ≤ 1048576) (hf : ∀ x, x ∈ all → FwStep x) : ∀ (rest : List Step) (i : Nat) (left : Int), all.drop i = rest → 0 ≤ left → left ≤ 1048576 →
    evLoop E (orc E) (80 : Nat) (rest.length + 1) (loopOf Tryz.f80 0) ⟨27, [(0, .sl 162 (all.map (sT 206))), (1, vI left), (5, vI i)], [], 2⟩ =
    (if ltI (subM left (sumStep rest)) 0 = true then some (.ret, ⟨27, [(4, vI (-1))], [], 2⟩) else some (.exit 0, ⟨27, [(0, .sl 162 (all.map (sT 206))), (1, vI (left - (sumStep rest : Nat))), (5, vI (i + rest.length : Nat)), (15, vB false)], [], 2⟩))
  | [], i, left, h, h0, h1 => by
    have hge : all.length ≤ i := by simpa using h
    have hlt : ltI (i : Int) (all.length : Int) = false := ltI_f (by omega)
    have hz : subM left 0 = left := subM_z h0
    have hn : ltI left 0 = false := ltI_f (by omega)
    rw [loop_eq]
    simp +contextual -dsimp [Tryz.f80, hlt, sumStep, hz, hn]
  | x :: rest, i, left, h, h0, h1 => by
    obtain ⟨hi, hc, hr⟩ := drop_cons h
    have hlt : ltI (i : Int) (all.length : Int) = true := ltI_t (by omega)
    have hw : IntKind.i64.wrap ((i : Int) + 1) = ((i + 1 : Nat) : Int) := by rw [wrapI] <;> omega
    have he : i + 1 + rest.length = i + (rest.length + 1) := by omega
    have g := g_szStep x left h0 h1 (hf x (by rw [← hc]; exact List.getElem_mem _))
    have ha : subM left (sumStep (x :: rest)) = subM (left - wStep x) (sumStep rest) := subM_add left (wStep x) (sumStep rest)
    have hb : left - ((sumStep (x :: rest) : Nat) : Int) = left - wStep x - (sumStep rest : Nat) := by simp only [sumStep]; omega
    cases c : ltI (subM left (wStep x)) 0
    · obtain ⟨p, e⟩ := sub_f c
      rw [e] at g c
      have ih := lszStepS all hall hf rest (i + 1) (left - wStep x) hr (by omega) (by omega)
      rw [he] at ih
      rw [ha, hb]
      refine evLoop_next ?_ (by simpa only [List.length_cons] using ih)
      simp (maxSteps := 1000000) +contextual -dsimp [Tryz.f80, hlt, hi, hc, hw, g, c]
    · have hn := sub_t h0 c
      have hm : ltI (subM left (sumStep (x :: rest))) 0 = true := by rw [subM_n (by simp only [sumStep]; omega)]; rfl
      rw [hm, if_pos rfl]
      refine evLoop_out ?_ (by simp)
      simp (maxSteps := 1000000) +contextual -dsimp [Tryz.f80, hlt, hi, hc, g, c]

theorem g_szStepS (l : List Step) (left : Int) (h0 : 0 ≤ left) (h1 : left ≤ 1048576) (hf : l.length < 2 ^ 62 ∧ ∀ y, y ∈ l → FwStep y) : fo 80 [A (.sl 162 (l.map (sT 206))), A (vI left)] = some (R (vI (subM left (wsStep l)))) := by
  have hl := hf.1
  unfold wsStep
  have hw : IntKind.i64.wrap (left - l.length) = left - l.length := by rw [wrapI] <;> omega
  refine orc_80 (l.length + 1) ?_
  cases c1 : ltI (left - l.length) 0
  · have p : (l.length : Int) ≤ left := by simp [ltI] at c1; omega
    have hlp := lszStepS l (by omega) hf.2 l 0 (left - l.length) rfl (by omega) (by omega)
    have ha : subM left (l.length + sumStep l) = subM (left - l.length) (sumStep l) := subM_add left l.length (sumStep l)
    rw [ha]
    simp -dsimp [Tryz.f80] at hlp
    cases c2 : ltI (subM (left - l.length) (sumStep l)) 0
    · obtain ⟨p2, e2⟩ := sub_f c2
      rw [c2] at hlp
      rw [e2]
      simp (maxSteps := 1000000) +contextual -dsimp [Tryz.f80, hw, c1, hlp]
    · rw [c2] at hlp
      have e2 : subM (left - l.length) (sumStep l) = -1 := subM_n (sub_t (by omega) c2)
      rw [e2]
      simp (maxSteps := 1000000) +contextual -dsimp [Tryz.f80, hw, c1, hlp]
  · have hm : subM left (l.length + sumStep l) = -1 := subM_n (by simp [ltI] at c1; omega)
    rw [hm]
    simp (maxSteps := 1000000) +contextual -dsimp [Tryz.f80, hw, c1]

theorem g_szProc (x : List Step) (left : Int) (h0 : 0 ≤ left) (h1 : left ≤ 1048576) (hf : FwProc x) : fo 62 [A (.agg (pT 162 206 x)), A (vI left)] = some (R (vI (subM left (wProc x)))) := by
  unfold FwProc at hf
  refine orc_62 1 ?_
  have g0 := g_szStepS x (left) (by omega) (by omega) hf
  cases c0 : ltI (subM (left) (wsStep x)) 0
  · obtain ⟨p0, e0⟩ := sub_f c0
    rw [e0] at g0 c0
    have hm : subM left (wProc x) = left - (wsStep x : Nat) := by
      have := subM_p (left := left) (w := wProc x) (by simp only [wProc]; omega)
      simp only [wProc] at this ⊢; omega
    rw [hm]
    simp (maxSteps := 1000000) +contextual -dsimp [Tryz.f62, g0, c0]
  · have n0 := sub_t (by omega) c0
    have hm : subM left (wProc x) = -1 := subM_n (by simp only [wProc]; omega)
    rw [hm]
    simp (maxSteps := 1000000) +contextual -dsimp [Tryz.f62, g0, c0]

theorem lszProcS (all : List (List Step)) (hall : all.length ≤ 1048576) (hf : ∀ x, x ∈ all → FwProc x) : ∀ (rest : List (List Step)) (i : Nat) (left : Int), all.drop i = rest → 0 ≤ left → left ≤ 1048576 →
    evLoop E (orc E) (36 : Nat) (rest.length + 1) (loopOf Tryz.f36 0) ⟨27, [(0, .sl 120 (all.map (pT 162 206))), (1, vI left), (5, vI i)], [], 2⟩ =
    (if ltI (subM left (sumProc rest)) 0 = true then some (.ret, ⟨27, [(4, vI (-1))], [], 2⟩) else some (.exit 0, ⟨27, [(0, .sl 120 (all.map (pT 162 206))), (1, vI (left - (sumProc rest : Nat))), (5, vI (i + rest.length : Nat)), (15, vB false)], [], 2⟩))
  | [], i, left, h, h0, h1 => by
    have hge : all.length ≤ i := by simpa using h
    have hlt : ltI (i : Int) (all.length : Int) = false := ltI_f (by omega)
    have hz : subM left 0 = left := subM_z h0
    have hn : ltI left 0 = false := ltI_f (by omega)
    rw [loop_eq]
    simp +contextual -dsimp [Tryz.f36, hlt, sumProc, hz, hn]
  | x :: rest, i, left, h, h0, h1 => by
    obtain ⟨hi, hc, hr⟩ := drop_cons h
    have hlt : ltI (i : Int) (all.length : Int) = true := ltI_t (by omega)
    have hw : IntKind.i64.wrap ((i : Int) + 1) = ((i + 1 : Nat) : Int) := by rw [wrapI] <;> omega
    have he : i + 1 + rest.length = i + (rest.length + 1) := by omega
    have g := g_szProc x left h0 h1 (hf x (by rw [← hc]; exact List.getElem_mem _))
    have ha : subM left (sumProc (x :: rest)) = subM (left - wProc x) (sumProc rest) := subM_add left (wProc x) (sumProc rest)
    have hb : left - ((sumProc (x :: rest) : Nat) : Int) = left - wProc x - (sumProc rest : Nat) := by simp only [sumProc]; omega
    cases c : ltI (subM left (wProc x)) 0
    · obtain ⟨p, e⟩ := sub_f c
      rw [e] at g c
      have ih := lszProcS all hall hf rest (i + 1) (left - wProc x) hr (by omega) (by omega)
      rw [he] at ih
      rw [ha, hb]
      refine evLoop_next ?_ (by simpa only [List.length_cons] using ih)
      simp (maxSteps := 1000000) +contextual -dsimp [Tryz.f36, hlt, hi, hc, hw, g, c]
    · have hn := sub_t h0 c
      have hm : ltI (subM left (sumProc (x :: rest))) 0 = true := by rw [subM_n (by simp only [sumProc]; omega)]; rfl
      rw [hm, if_pos rfl]
      refine evLoop_out ?_ (by simp)
      simp (maxSteps := 1000000) +contextual -dsimp [Tryz.f36, hlt, hi, hc, g, c]

theorem g_szProcS (l : List (List Step)) (left : Int) (h0 : 0 ≤ left) (h1 : left ≤ 1048576) (hf : l.length < 2 ^ 62 ∧ ∀ y, y ∈ l → FwProc y) : fo 36 [A (.sl 120 (l.map (pT 162 206))), A (vI left)] = some (R (vI (subM left (wsProc l)))) := by
  have hl := hf.1
  unfold wsProc
  have hw : IntKind.i64.wrap (left - l.length) = left - l.length := by rw [wrapI] <;> omega
  refine orc_36 (l.length + 1) ?_
  cases c1 : ltI (left - l.length) 0
  · have p : (l.length : Int) ≤ left := by simp [ltI] at c1; omega
    have hlp := lszProcS l (by omega) hf.2 l 0 (left - l.length) rfl (by omega) (by omega)
    have ha : subM left (l.length + sumProc l) = subM (left - l.length) (sumProc l) := subM_add left l.length (sumProc l)
    rw [ha]
    simp -dsimp [Tryz.f36] at hlp
    cases c2 : ltI (subM (left - l.length) (sumProc l)) 0
    · obtain ⟨p2, e2⟩ := sub_f c2
      rw [c2] at hlp
      rw [e2]
      simp (maxSteps := 1000000) +contextual -dsimp [Tryz.f36, hw, c1, hlp]
    · rw [c2] at hlp
      have e2 : subM (left - l.length) (sumProc l) = -1 := subM_n (sub_t (by omega) c2)
      rw [e2]
      simp (maxSteps := 1000000) +contextual -dsimp [Tryz.f36, hw, c1, hlp]
  · have hm : subM left (l.length + sumProc l) = -1 := subM_n (by simp [ltI] at c1; omega)
    rw [hm]
    simp (maxSteps := 1000000) +contextual -dsimp [Tryz.f36, hw, c1]

theorem g_szChart (x : Chart) (left : Int) (h0 : 0 ≤ left) (h1 : left ≤ 1048576) (hf : FwChart x) : fo 81 [A (.agg (cT x)), A (vI left)] = some (R (vI (subM left (wChart x)))) := by
  unfold FwChart at hf
  refine orc_81 1 ?_
  have g0 := g_szintS x.vars (left) (by omega) (by omega) hf.1
  cases c0 : ltI (subM (left) (x.vars.length)) 0
  · obtain ⟨p0, e0⟩ := sub_f c0
    rw [e0] at g0 c0
    have g1 := g_szintS x.acts (left - (x.vars.length : Nat)) (by omega) (by omega) hf.2.1
    cases c1 : ltI (subM (left - (x.vars.length : Nat)) (x.acts.length)) 0
    · obtain ⟨p1, e1⟩ := sub_f c1
      rw [e1] at g1 c1
      have g2 := g_szintS x.dues (left - (x.vars.length : Nat) - (x.acts.length : Nat)) (by omega) (by omega) hf.2.2
      cases c2 : ltI (subM (left - (x.vars.length : Nat) - (x.acts.length : Nat)) (x.dues.length)) 0
      · obtain ⟨p2, e2⟩ := sub_f c2
        rw [e2] at g2 c2
        have hm : subM left (wChart x) = left - (x.vars.length : Nat) - (x.acts.length : Nat) - (x.dues.length : Nat) := by
          have := subM_p (left := left) (w := wChart x) (by simp only [wChart]; omega)
          simp only [wChart] at this ⊢; omega
        rw [hm]
        simp (maxSteps := 1000000) +contextual -dsimp [Tryz.f81, g0, g1, g2, c0, c1, c2]
      · have n2 := sub_t (by omega) c2
        have hm : subM left (wChart x) = -1 := subM_n (by simp only [wChart]; omega)
        rw [hm]
        simp (maxSteps := 1000000) +contextual -dsimp [Tryz.f81, g0, g1, g2, c0, c1, c2]
    · have n1 := sub_t (by omega) c1
      have hm : subM left (wChart x) = -1 := subM_n (by simp only [wChart]; omega)
      rw [hm]
      simp (maxSteps := 1000000) +contextual -dsimp [Tryz.f81, g0, g1, c0, c1]
  · have n0 := sub_t (by omega) c0
    have hm : subM left (wChart x) = -1 := subM_n (by simp only [wChart]; omega)
    rw [hm]
    simp (maxSteps := 1000000) +contextual -dsimp [Tryz.f81, g0, c0]

theorem g_szInst (x : Inst) (left : Int) (h0 : 0 ≤ left) (h1 : left ≤ 1048576) (hf : FwInst x) : fo 63 [A (.agg (xT x)), A (vI left)] = some (R (vI (subM left (wInst x)))) := by
  unfold FwInst at hf
  refine orc_63 1 ?_
  have g0 := g_szChart x.chart (left) (by omega) (by omega) hf
  cases c0 : ltI (subM (left) (wChart x.chart)) 0
  · obtain ⟨p0, e0⟩ := sub_f c0
    rw [e0] at g0 c0
    have hm : subM left (wInst x) = left - (wChart x.chart : Nat) := by
      have := subM_p (left := left) (w := wInst x) (by simp only [wInst]; omega)
      simp only [wInst] at this ⊢; omega
    rw [hm]
    simp (maxSteps := 1000000) +contextual -dsimp [Tryz.f63, g0, c0]
  · have n0 := sub_t (by omega) c0
    have hm : subM left (wInst x) = -1 := subM_n (by simp only [wInst]; omega)
    rw [hm]
    simp (maxSteps := 1000000) +contextual -dsimp [Tryz.f63, g0, c0]

theorem lszInstS (all : List Inst) (hall : all.length ≤ 1048576) (hf : ∀ x, x ∈ all → FwInst x) : ∀ (rest : List Inst) (i : Nat) (left : Int), all.drop i = rest → 0 ≤ left → left ≤ 1048576 →
    evLoop E (orc E) (37 : Nat) (rest.length + 1) (loopOf Tryz.f37 0) ⟨27, [(0, .sl 124 (all.map xT)), (1, vI left), (5, vI i)], [], 2⟩ =
    (if ltI (subM left (sumInst rest)) 0 = true then some (.ret, ⟨27, [(4, vI (-1))], [], 2⟩) else some (.exit 0, ⟨27, [(0, .sl 124 (all.map xT)), (1, vI (left - (sumInst rest : Nat))), (5, vI (i + rest.length : Nat)), (15, vB false)], [], 2⟩))
  | [], i, left, h, h0, h1 => by
    have hge : all.length ≤ i := by simpa using h
    have hlt : ltI (i : Int) (all.length : Int) = false := ltI_f (by omega)
    have hz : subM left 0 = left := subM_z h0
    have hn : ltI left 0 = false := ltI_f (by omega)
    rw [loop_eq]
    simp +contextual -dsimp [Tryz.f37, hlt, sumInst, hz, hn]
  | x :: rest, i, left, h, h0, h1 => by
    obtain ⟨hi, hc, hr⟩ := drop_cons h
    have hlt : ltI (i : Int) (all.length : Int) = true := ltI_t (by omega)
    have hw : IntKind.i64.wrap ((i : Int) + 1) = ((i + 1 : Nat) : Int) := by rw [wrapI] <;> omega
    have he : i + 1 + rest.length = i + (rest.length + 1) := by omega
    have g := g_szInst x left h0 h1 (hf x (by rw [← hc]; exact List.getElem_mem _))
    have ha : subM left (sumInst (x :: rest)) = subM (left - wInst x) (sumInst rest) := subM_add left (wInst x) (sumInst rest)
    have hb : left - ((sumInst (x :: rest) : Nat) : Int) = left - wInst x - (sumInst rest : Nat) := by simp only [sumInst]; omega
    cases c : ltI (subM left (wInst x)) 0
    · obtain ⟨p, e⟩ := sub_f c
      rw [e] at g c
      have ih := lszInstS all hall hf rest (i + 1) (left - wInst x) hr (by omega) (by omega)
      rw [he] at ih
      rw [ha, hb]
      refine evLoop_next ?_ (by simpa only [List.length_cons] using ih)
      simp (maxSteps := 1000000) +contextual -dsimp [Tryz.f37, hlt, hi, hc, hw, g, c]
    · have hn := sub_t h0 c
      have hm : ltI (subM left (sumInst (x :: rest))) 0 = true := by rw [subM_n (by simp only [sumInst]; omega)]; rfl
      rw [hm, if_pos rfl]
      refine evLoop_out ?_ (by simp)
      simp (maxSteps := 1000000) +contextual -dsimp [Tryz.f37, hlt, hi, hc, g, c]

theorem g_szInstS (l : List Inst) (left : Int) (h0 : 0 ≤ left) (h1 : left ≤ 1048576) (hf : l.length < 2 ^ 62 ∧ ∀ y, y ∈ l → FwInst y) : fo 37 [A (.sl 124 (l.map xT)), A (vI left)] = some (R (vI (subM left (wsInst l)))) := by
  have hl := hf.1
  unfold wsInst
  have hw : IntKind.i64.wrap (left - l.length) = left - l.length := by rw [wrapI] <;> omega
  refine orc_37 (l.length + 1) ?_
  cases c1 : ltI (left - l.length) 0
  · have p : (l.length : Int) ≤ left := by simp [ltI] at c1; omega
    have hlp := lszInstS l (by omega) hf.2 l 0 (left - l.length) rfl (by omega) (by omega)
    have ha : subM left (l.length + sumInst l) = subM (left - l.length) (sumInst l) := subM_add left l.length (sumInst l)
    rw [ha]
    simp -dsimp [Tryz.f37] at hlp
    cases c2 : ltI (subM (left - l.length) (sumInst l)) 0
    · obtain ⟨p2, e2⟩ := sub_f c2
      rw [c2] at hlp
      rw [e2]
      simp (maxSteps := 1000000) +contextual -dsimp [Tryz.f37, hw, c1, hlp]
    · rw [c2] at hlp
      have e2 : subM (left - l.length) (sumInst l) = -1 := subM_n (sub_t (by omega) c2)
      rw [e2]
      simp (maxSteps := 1000000) +contextual -dsimp [Tryz.f37, hw, c1, hlp]
  · have hm : subM left (l.length + sumInst l) = -1 := subM_n (by simp [ltI] at c1; omega)
    rw [hm]
    simp (maxSteps := 1000000) +contextual -dsimp [Tryz.f37, hw, c1]

theorem g_szClaimS (l : List Claim) (left : Int) (h0 : 0 ≤ left) (h1 : left ≤ 1048576) (hl : l.length < 2 ^ 62) : fo 20 [A (.sl 103 (l.map kT)), A (vI left)] = some (R (vI (subM left l.length))) := by
  have hw : IntKind.i64.wrap (left - l.length) = left - l.length := by rw [wrapI] <;> omega
  refine orc_20 1 ?_
  simp (maxSteps := 1000000) +contextual -dsimp [Tryz.f20, subM, hw]

theorem g_szEngine (x : Engine) (left : Int) (h0 : 0 ≤ left) (h1 : left ≤ 1048576) (hf : FwEngine x) : fo 19 [A (.agg (eTl x)), A (vI left)] = some (R (vI (subM left (wEngine x)))) := by
  unfold FwEngine at hf
  refine orc_19 1 ?_
  have g0 := g_szProcS x.procs (left) (by omega) (by omega) hf.1
  cases c0 : ltI (subM (left) (wsProc x.procs)) 0
  · obtain ⟨p0, e0⟩ := sub_f c0
    rw [e0] at g0 c0
    have g1 := g_szInstS x.insts (left - (wsProc x.procs : Nat)) (by omega) (by omega) hf.2
    cases c1 : ltI (subM (left - (wsProc x.procs : Nat)) (wsInst x.insts)) 0
    · obtain ⟨p1, e1⟩ := sub_f c1
      rw [e1] at g1 c1
      have hm : subM left (wEngine x) = left - (wsProc x.procs : Nat) - (wsInst x.insts : Nat) := by
        have := subM_p (left := left) (w := wEngine x) (by simp only [wEngine]; omega)
        simp only [wEngine] at this ⊢; omega
      rw [hm]
      simp (maxSteps := 1000000) +contextual -dsimp [Tryz.f19, g0, g1, c0, c1]
    · have n1 := sub_t (by omega) c1
      have hm : subM left (wEngine x) = -1 := subM_n (by simp only [wEngine]; omega)
      rw [hm]
      simp (maxSteps := 1000000) +contextual -dsimp [Tryz.f19, g0, g1, c0, c1]
  · have n0 := sub_t (by omega) c0
    have hm : subM left (wEngine x) = -1 := subM_n (by simp only [wEngine]; omega)
    rw [hm]
    simp (maxSteps := 1000000) +contextual -dsimp [Tryz.f19, g0, c0]

theorem g_szDesk (x : Desk) (left : Int) (h0 : 0 ≤ left) (h1 : left ≤ 1048576) (hf : FwDesk x) : fo 6 [A (.agg (dTl x)), A (vI left)] = some (R (vI (subM left (wDesk x)))) := by
  unfold FwDesk at hf
  refine orc_6 1 ?_
  have g0 := g_szEngine x.eng (left) (by omega) (by omega) hf.1
  cases c0 : ltI (subM (left) (wEngine x.eng)) 0
  · obtain ⟨p0, e0⟩ := sub_f c0
    rw [e0] at g0 c0
    have g1 := g_szClaimS x.claims (left - (wEngine x.eng : Nat)) (by omega) (by omega) hf.2
    cases c1 : ltI (subM (left - (wEngine x.eng : Nat)) (x.claims.length)) 0
    · obtain ⟨p1, e1⟩ := sub_f c1
      rw [e1] at g1 c1
      have hm : subM left (wDesk x) = left - (wEngine x.eng : Nat) - (x.claims.length : Nat) := by
        have := subM_p (left := left) (w := wDesk x) (by simp only [wDesk]; omega)
        simp only [wDesk] at this ⊢; omega
      rw [hm]
      simp (maxSteps := 1000000) +contextual -dsimp [Tryz.f6, g0, g1, c0, c1]
    · have n1 := sub_t (by omega) c1
      have hm : subM left (wDesk x) = -1 := subM_n (by simp only [wDesk]; omega)
      rw [hm]
      simp (maxSteps := 1000000) +contextual -dsimp [Tryz.f6, g0, g1, c0, c1]
  · have n0 := sub_t (by omega) c0
    have hm : subM left (wDesk x) = -1 := subM_n (by simp only [wDesk]; omega)
    rw [hm]
    simp (maxSteps := 1000000) +contextual -dsimp [Tryz.f6, g0, c0]

end Go.TM.Lr

namespace Go.TM.Lr
open Go Go.TM Go.Proofs
set_option maxRecDepth 20000
attribute [local congr] gif_cg
attribute [local simp] footOf noClash clash upsets setsHit setHits layHits layMeets setsMeet evFeet

abbrev zI : List T := [vI 0]
theorem gseal_int (l : List Int) : sealEs (l.map iV) = l.map iV := sealEs_map (f := iV) (g := iV) (fun a => by simp [sealL, seal_]) l
theorem ltointS (all : List Int) (hall : all.length ≤ 1048576) : ∀ (rest : List Int) (i : Nat) (es : List (List T)), all.drop i = rest → es.length = all.length → (∀ j, i ≤ j → j < all.length → es[j]? = some zI) →
    evLoop E (orc E) (103 : Nat) (rest.length + 1) (loopOf Tryz.f103 0) ⟨22, [(0, .sl 2 (all.map iV)), (3, .ref 3 1 [] 0 all.length), (4, vI i)], [(3, ⟨1, 1, false, [.own 2 es]⟩)], 2⟩ =
    some (.exit 0, ⟨22, [(0, .sl 2 (all.map iV)), (3, .ref 3 1 [] 0 all.length), (4, vI (i + rest.length : Nat)), (11, vB false)], [(3, ⟨1, 1, false, [.own 2 (es.take i ++ rest.map iV)]⟩)], 2⟩)
  | [], i, es, h, hl, hz => by
    have hge : all.length ≤ i := by simpa using h
    have hlt : ltI (i : Int) (all.length : Int) = false := ltI_f (by omega)
    have ht : es.take i = es := List.take_of_length_le (by omega)
    rw [loop_eq]
    simp +contextual -dsimp [Tryz.f103, hlt, ht]
  | x :: rest, i, es, h, hl, hz => by
    obtain ⟨hi, hc, hr⟩ := drop_cons h
    have hlt : ltI (i : Int) (all.length : Int) = true := ltI_t (by omega)
    have hw : IntKind.i64.wrap ((i : Int) + 1) = ((i + 1 : Nat) : Int) := by rw [wrapI] <;> omega
    have hi2 : i < es.length := by omega
    have hz1 : es[i] = zI := by
      have := hz i (Nat.le_refl _) hi
      rw [List.getElem?_eq_getElem hi2] at this
      simpa using this
    have ih := ltointS all hall rest (i + 1) (es.set i (iV x)) hr (by simpa using hl) (fun j hj hj2 => by
      rw [List.getElem?_set_ne (by omega)]
      exact hz j (by omega) hj2)
    have he : i + 1 + rest.length = i + (rest.length + 1) := by omega
    have hes : (es.set i (iV x)).take (i + 1) = es.take i ++ [iV x] := by
      rw [List.take_add_one, List.take_set_of_le (Nat.le_refl _)]
      simp [hi2]
    rw [he, hes, List.append_assoc] at ih
    refine evLoop_next ?_ (by simpa only [List.length_cons, List.map_cons, List.singleton_append] using ih)
    simp (maxSteps := 1000000) +contextual -dsimp [Tryz.f103, hlt, hi, hc, hw, hz1, hl, List.set]

theorem g_tointS (l : List Int) (hl : l.length ≤ 1048576) : ∃ b, fo 103 [A (.sl 2 (l.map iV))] = some ⟨.own 2 (l.map iV), [], b⟩ := by
  have hm : (l.length : Int) ≤ (maxElems : Nat) := by unfold maxElems; omega
  have hlp := ltointS l hl l 0 (List.replicate l.length zI) rfl (by simp) (fun j _ hj => by simp [hj])
  refine ⟨cleanEs (l.map iV), orc_103 (l.length + 1) ?_⟩
  simp -dsimp [Tryz.f103] at hlp
  simp (maxSteps := 1000000) +contextual -dsimp [Tryz.f103, hm, hlp, List.set]

theorem g_toNode (x : Node) : fo 148 [A (.agg (nT x))] = some ⟨.agg (nT x), [], true⟩ := by
  refine orc_148 1 ?_
  simp (maxSteps := 1000000) +contextual -dsimp [Tryz.f148, List.set]

theorem gseal_Node (l : List Node) : sealEs (l.map nT) = l.map nT := sealEs_map (f := nT) (g := nT) (fun a => by simp [sealL, seal_]) l
theorem ltoNodeS (all : List Node) (hall : all.length ≤ 1048576) : ∀ (rest : List Node) (i : Nat) (es : List (List T)), all.drop i = rest → es.length = all.length → (∀ j, i ≤ j → j < all.length → es[j]? = some [vI 0, vI 0, vI 0, vI 0]) →
    evLoop E (orc E) (128 : Nat) (rest.length + 1) (loopOf Tryz.f128 0) ⟨23, [(0, .sl 206 (all.map nT)), (3, .ref 3 1 [] 0 all.length), (4, vI i)], [(3, ⟨1, 1, false, [.own 201 es]⟩)], 2⟩ =
    some (.exit 0, ⟨23, [(0, .sl 206 (all.map nT)), (3, .ref 3 1 [] 0 all.length), (4, vI (i + rest.length : Nat)), (11, vB false)], [(3, ⟨1, 1, false, [.own 201 (es.take i ++ rest.map nT)]⟩)], 2⟩)
  | [], i, es, h, hl, hz => by
    have hge : all.length ≤ i := by simpa using h
    have hlt : ltI (i : Int) (all.length : Int) = false := ltI_f (by omega)
    have ht : es.take i = es := List.take_of_length_le (by omega)
    rw [loop_eq]
    simp +contextual -dsimp [Tryz.f128, hlt, ht]
  | x :: rest, i, es, h, hl, hz => by
    obtain ⟨hi, hc, hr⟩ := drop_cons h
    have hlt : ltI (i : Int) (all.length : Int) = true := ltI_t (by omega)
    have hw : IntKind.i64.wrap ((i : Int) + 1) = ((i + 1 : Nat) : Int) := by rw [wrapI] <;> omega
    have hi2 : i < es.length := by omega
    have hz1 : es[i] = [vI 0, vI 0, vI 0, vI 0] := by
      have := hz i (Nat.le_refl _) hi
      rw [List.getElem?_eq_getElem hi2] at this
      simpa using this
    have ih := ltoNodeS all hall rest (i + 1) (es.set i (nT x)) hr (by simpa using hl) (fun j hj hj2 => by
      rw [List.getElem?_set_ne (by omega)]
      exact hz j (by omega) hj2)
    have he : i + 1 + rest.length = i + (rest.length + 1) := by omega
    have hes : (es.set i (nT x)).take (i + 1) = es.take i ++ [nT x] := by
      rw [List.take_add_one, List.take_set_of_le (Nat.le_refl _)]
      simp [hi2]
    rw [he, hes, List.append_assoc] at ih
    have g := g_toNode x
    refine evLoop_next ?_ (by simpa only [List.length_cons, List.map_cons, List.singleton_append] using ih)
    simp (maxSteps := 1000000) +contextual -dsimp [Tryz.f128, hlt, hi, hc, hw, hz1, hl, g, List.set]

theorem g_toNodeS (l : List Node) (hl : l.length ≤ 1048576) : ∃ b, fo 128 [A (.sl 206 (l.map nT))] = some ⟨.own 201 (l.map nT), [], b⟩ := by
  have hm : (l.length : Int) ≤ (maxElems : Nat) := by unfold maxElems; omega
  have hlp := ltoNodeS l hl l 0 (List.replicate l.length [vI 0, vI 0, vI 0, vI 0]) rfl (by simp) (fun j _ hj => by simp [hj])
  refine ⟨cleanEs (l.map nT), orc_128 (l.length + 1) ?_⟩
  simp -dsimp [Tryz.f128] at hlp
  simp (maxSteps := 1000000) +contextual -dsimp [Tryz.f128, hm, hlp, List.set]

theorem g_toStep (x : Step) (h : wStep x ≤ 1048576) : fo 102 [A (.agg (sT 206 x))] = some ⟨.agg (sT 201 x), [], false⟩ := by
  obtain ⟨b4, g4⟩ := g_toNodeS x.cond (by simp only [wStep] at h; omega)
  have s4 := gseal_Node x.cond
  obtain ⟨b5, g5⟩ := g_toNodeS x.expr (by simp only [wStep] at h; omega)
  have s5 := gseal_Node x.expr
  refine orc_102 1 ?_
  simp (maxSteps := 1000000) +contextual -dsimp [Tryz.f102, g4, s4, g5, s5, List.set]

theorem gseal_Step (l : List Step) : sealEs (l.map (sT 201)) = l.map (sT 201) := sealEs_map (f := (sT 201)) (g := (sT 201)) (fun a => by simp [sealL, seal_]) l
theorem ltoStepS (all : List Step) (hall : all.length ≤ 1048576) (hf : ∀ x, x ∈ all → wStep x ≤ 1048576) : ∀ (rest : List Step) (i : Nat) (es : List (List T)), all.drop i = rest → es.length = all.length → (∀ j, i ≤ j → j < all.length → es[j]? = some [vI 0, vI 0, vS emp, vI 0, .own 201 [], .own 201 []]) →
    evLoop E (orc E) (85 : Nat) (rest.length + 1) (loopOf Tryz.f85 0) ⟨23, [(0, .sl 162 (all.map (sT 206))), (3, .ref 3 1 [] 0 all.length), (4, vI i)], [(3, ⟨1, 1, false, [.own 99 es]⟩)], 2⟩ =
    some (.exit 0, ⟨23, [(0, .sl 162 (all.map (sT 206))), (3, .ref 3 1 [] 0 all.length), (4, vI (i + rest.length : Nat)), (11, vB false)], [(3, ⟨1, 1, false, [.own 99 (es.take i ++ rest.map (sT 201))]⟩)], 2⟩)
  | [], i, es, h, hl, hz => by
    have hge : all.length ≤ i := by simpa using h
    have hlt : ltI (i : Int) (all.length : Int) = false := ltI_f (by omega)
    have ht : es.take i = es := List.take_of_length_le (by omega)
    rw [loop_eq]
    simp +contextual -dsimp [Tryz.f85, hlt, ht]
  | x :: rest, i, es, h, hl, hz => by
    obtain ⟨hi, hc, hr⟩ := drop_cons h
    have hlt : ltI (i : Int) (all.length : Int) = true := ltI_t (by omega)
    have hw : IntKind.i64.wrap ((i : Int) + 1) = ((i + 1 : Nat) : Int) := by rw [wrapI] <;> omega
    have hi2 : i < es.length := by omega
    have hz1 : es[i] = [vI 0, vI 0, vS emp, vI 0, .own 201 [], .own 201 []] := by
      have := hz i (Nat.le_refl _) hi
      rw [List.getElem?_eq_getElem hi2] at this
      simpa using this
    have ih := ltoStepS all hall hf rest (i + 1) (es.set i (sT 201 x)) hr (by simpa using hl) (fun j hj hj2 => by
      rw [List.getElem?_set_ne (by omega)]
      exact hz j (by omega) hj2)
    have he : i + 1 + rest.length = i + (rest.length + 1) := by omega
    have hes : (es.set i (sT 201 x)).take (i + 1) = es.take i ++ [sT 201 x] := by
      rw [List.take_add_one, List.take_set_of_le (Nat.le_refl _)]
      simp [hi2]
    rw [he, hes, List.append_assoc] at ih
    have g := g_toStep x (hf x (by rw [← hc]; exact List.getElem_mem _))
    refine evLoop_next ?_ (by simpa only [List.length_cons, List.map_cons, List.singleton_append] using ih)
    simp (maxSteps := 1000000) +contextual -dsimp [Tryz.f85, hlt, hi, hc, hw, hz1, hl, g, List.set]

theorem g_toStepS (l : List Step) (hl : l.length ≤ 1048576) (hf : ∀ x, x ∈ l → wStep x ≤ 1048576) : ∃ b, fo 85 [A (.sl 162 (l.map (sT 206)))] = some ⟨.own 99 (l.map (sT 201)), [], b⟩ := by
  have hm : (l.length : Int) ≤ (maxElems : Nat) := by unfold maxElems; omega
  have hlp := ltoStepS l hl hf l 0 (List.replicate l.length [vI 0, vI 0, vS emp, vI 0, .own 201 [], .own 201 []]) rfl (by simp) (fun j _ hj => by simp [hj])
  refine ⟨cleanEs (l.map (sT 201)), orc_85 (l.length + 1) ?_⟩
  simp -dsimp [Tryz.f85] at hlp
  simp (maxSteps := 1000000) +contextual -dsimp [Tryz.f85, hm, hlp, List.set]

theorem g_toProc (x : List Step) (h : wProc x ≤ 1048576) : fo 67 [A (.agg (pT 162 206 x))] = some ⟨.agg (pT 99 201 x), [], false⟩ := by
  obtain ⟨b0, g0⟩ := g_toStepS x (by simp only [wProc, wsStep] at h; omega) (fun y hy => by have := sumStep_mem hy; simp only [wProc, wsStep] at h; omega)
  have s0 := gseal_Step x
  refine orc_67 1 ?_
  simp (maxSteps := 1000000) +contextual -dsimp [Tryz.f67, g0, s0, List.set]

theorem gseal_Proc (l : List (List Step)) : sealEs (l.map (pT 99 201)) = l.map (pT 99 201) := sealEs_map (f := (pT 99 201)) (g := (pT 99 201)) (fun a => by simp [sealL, seal_]) l
theorem ltoProcS (all : List (List Step)) (hall : all.length ≤ 1048576) (hf : ∀ x, x ∈ all → wProc x ≤ 1048576) : ∀ (rest : List (List Step)) (i : Nat) (es : List (List T)), all.drop i = rest → es.length = all.length → (∀ j, i ≤ j → j < all.length → es[j]? = some [.own 99 []]) →
    evLoop E (orc E) (44 : Nat) (rest.length + 1) (loopOf Tryz.f44 0) ⟨23, [(0, .sl 120 (all.map (pT 162 206))), (3, .ref 3 1 [] 0 all.length), (4, vI i)], [(3, ⟨1, 1, false, [.own 71 es]⟩)], 2⟩ =
    some (.exit 0, ⟨23, [(0, .sl 120 (all.map (pT 162 206))), (3, .ref 3 1 [] 0 all.length), (4, vI (i + rest.length : Nat)), (11, vB false)], [(3, ⟨1, 1, false, [.own 71 (es.take i ++ rest.map (pT 99 201))]⟩)], 2⟩)
  | [], i, es, h, hl, hz => by
    have hge : all.length ≤ i := by simpa using h
    have hlt : ltI (i : Int) (all.length : Int) = false := ltI_f (by omega)
    have ht : es.take i = es := List.take_of_length_le (by omega)
    rw [loop_eq]
    simp +contextual -dsimp [Tryz.f44, hlt, ht]
  | x :: rest, i, es, h, hl, hz => by
    obtain ⟨hi, hc, hr⟩ := drop_cons h
    have hlt : ltI (i : Int) (all.length : Int) = true := ltI_t (by omega)
    have hw : IntKind.i64.wrap ((i : Int) + 1) = ((i + 1 : Nat) : Int) := by rw [wrapI] <;> omega
    have hi2 : i < es.length := by omega
    have hz1 : es[i] = [.own 99 []] := by
      have := hz i (Nat.le_refl _) hi
      rw [List.getElem?_eq_getElem hi2] at this
      simpa using this
    have ih := ltoProcS all hall hf rest (i + 1) (es.set i (pT 99 201 x)) hr (by simpa using hl) (fun j hj hj2 => by
      rw [List.getElem?_set_ne (by omega)]
      exact hz j (by omega) hj2)
    have he : i + 1 + rest.length = i + (rest.length + 1) := by omega
    have hes : (es.set i (pT 99 201 x)).take (i + 1) = es.take i ++ [pT 99 201 x] := by
      rw [List.take_add_one, List.take_set_of_le (Nat.le_refl _)]
      simp [hi2]
    rw [he, hes, List.append_assoc] at ih
    have g := g_toProc x (hf x (by rw [← hc]; exact List.getElem_mem _))
    refine evLoop_next ?_ (by simpa only [List.length_cons, List.map_cons, List.singleton_append] using ih)
    simp (maxSteps := 1000000) +contextual -dsimp [Tryz.f44, hlt, hi, hc, hw, hz1, hl, g, List.set]

theorem g_toProcS (l : List (List Step)) (hl : l.length ≤ 1048576) (hf : ∀ x, x ∈ l → wProc x ≤ 1048576) : ∃ b, fo 44 [A (.sl 120 (l.map (pT 162 206)))] = some ⟨.own 71 (l.map (pT 99 201)), [], b⟩ := by
  have hm : (l.length : Int) ≤ (maxElems : Nat) := by unfold maxElems; omega
  have hlp := ltoProcS l hl hf l 0 (List.replicate l.length [.own 99 []]) rfl (by simp) (fun j _ hj => by simp [hj])
  refine ⟨cleanEs (l.map (pT 99 201)), orc_44 (l.length + 1) ?_⟩
  simp -dsimp [Tryz.f44] at hlp
  simp (maxSteps := 1000000) +contextual -dsimp [Tryz.f44, hm, hlp, List.set]

theorem g_toChart (x : Chart) (h : wChart x ≤ 1048576) : fo 86 [A (.agg (cT x))] = some ⟨.agg (cT x), [], false⟩ := by
  obtain ⟨b2, g2⟩ := g_tointS x.vars (by simp only [wChart] at h; omega)
  have s2 := gseal_int x.vars
  obtain ⟨b3, g3⟩ := g_tointS x.acts (by simp only [wChart] at h; omega)
  have s3 := gseal_int x.acts
  obtain ⟨b4, g4⟩ := g_tointS x.dues (by simp only [wChart] at h; omega)
  have s4 := gseal_int x.dues
  refine orc_86 1 ?_
  simp (maxSteps := 1000000) +contextual -dsimp [Tryz.f86, g2, s2, g3, s3, g4, s4, List.set]

theorem g_toInst (x : Inst) (h : wInst x ≤ 1048576) : fo 68 [A (.agg (xT x))] = some ⟨.agg (xT x), [], false⟩ := by
  have g1 := g_toChart x.chart (by simp only [wInst] at h; omega)
  refine orc_68 1 ?_
  simp (maxSteps := 1000000) +contextual -dsimp [Tryz.f68, g1, List.set]

theorem gseal_Inst (l : List Inst) : sealEs (l.map xT) = l.map xT := sealEs_map (f := xT) (g := xT) (fun a => by simp [sealL, seal_]) l
theorem ltoInstS (all : List Inst) (hall : all.length ≤ 1048576) (hf : ∀ x, x ∈ all → wInst x ≤ 1048576) : ∀ (rest : List Inst) (i : Nat) (es : List (List T)), all.drop i = rest → es.length = all.length → (∀ j, i ≤ j → j < all.length → es[j]? = some [vI 0, vI 0, vI 0, .own 2 [], .own 2 [], .own 2 []]) →
    evLoop E (orc E) (45 : Nat) (rest.length + 1) (loopOf Tryz.f45 0) ⟨23, [(0, .sl 124 (all.map xT)), (3, .ref 3 1 [] 0 all.length), (4, vI i)], [(3, ⟨1, 1, false, [.own 67 es]⟩)], 2⟩ =
    some (.exit 0, ⟨23, [(0, .sl 124 (all.map xT)), (3, .ref 3 1 [] 0 all.length), (4, vI (i + rest.length : Nat)), (11, vB false)], [(3, ⟨1, 1, false, [.own 67 (es.take i ++ rest.map xT)]⟩)], 2⟩)
  | [], i, es, h, hl, hz => by
    have hge : all.length ≤ i := by simpa using h
    have hlt : ltI (i : Int) (all.length : Int) = false := ltI_f (by omega)
    have ht : es.take i = es := List.take_of_length_le (by omega)
    rw [loop_eq]
    simp +contextual -dsimp [Tryz.f45, hlt, ht]
  | x :: rest, i, es, h, hl, hz => by
    obtain ⟨hi, hc, hr⟩ := drop_cons h
    have hlt : ltI (i : Int) (all.length : Int) = true := ltI_t (by omega)
    have hw : IntKind.i64.wrap ((i : Int) + 1) = ((i + 1 : Nat) : Int) := by rw [wrapI] <;> omega
    have hi2 : i < es.length := by omega
    have hz1 : es[i] = [vI 0, vI 0, vI 0, .own 2 [], .own 2 [], .own 2 []] := by
      have := hz i (Nat.le_refl _) hi
      rw [List.getElem?_eq_getElem hi2] at this
      simpa using this
    have ih := ltoInstS all hall hf rest (i + 1) (es.set i (xT x)) hr (by simpa using hl) (fun j hj hj2 => by
      rw [List.getElem?_set_ne (by omega)]
      exact hz j (by omega) hj2)
    have he : i + 1 + rest.length = i + (rest.length + 1) := by omega
    have hes : (es.set i (xT x)).take (i + 1) = es.take i ++ [xT x] := by
      rw [List.take_add_one, List.take_set_of_le (Nat.le_refl _)]
      simp [hi2]
    rw [he, hes, List.append_assoc] at ih
    have g := g_toInst x (hf x (by rw [← hc]; exact List.getElem_mem _))
    refine evLoop_next ?_ (by simpa only [List.length_cons, List.map_cons, List.singleton_append] using ih)
    simp (maxSteps := 1000000) +contextual -dsimp [Tryz.f45, hlt, hi, hc, hw, hz1, hl, g, List.set]

theorem g_toInstS (l : List Inst) (hl : l.length ≤ 1048576) (hf : ∀ x, x ∈ l → wInst x ≤ 1048576) : ∃ b, fo 45 [A (.sl 124 (l.map xT))] = some ⟨.own 67 (l.map xT), [], b⟩ := by
  have hm : (l.length : Int) ≤ (maxElems : Nat) := by unfold maxElems; omega
  have hlp := ltoInstS l hl hf l 0 (List.replicate l.length [vI 0, vI 0, vI 0, .own 2 [], .own 2 [], .own 2 []]) rfl (by simp) (fun j _ hj => by simp [hj])
  refine ⟨cleanEs (l.map xT), orc_45 (l.length + 1) ?_⟩
  simp -dsimp [Tryz.f45] at hlp
  simp (maxSteps := 1000000) +contextual -dsimp [Tryz.f45, hm, hlp, List.set]

theorem g_toClaim (x : Claim) : fo 46 [A (.agg (kT x))] = some ⟨.agg (kT x), [], true⟩ := by
  refine orc_46 1 ?_
  simp (maxSteps := 1000000) +contextual -dsimp [Tryz.f46, List.set]

theorem gseal_Claim (l : List Claim) : sealEs (l.map kT) = l.map kT := sealEs_map (f := kT) (g := kT) (fun a => by simp [sealL, seal_]) l
theorem ltoClaimS (all : List Claim) (hall : all.length ≤ 1048576) : ∀ (rest : List Claim) (i : Nat) (es : List (List T)), all.drop i = rest → es.length = all.length → (∀ j, i ≤ j → j < all.length → es[j]? = some [vI 0, vI 0, vI 0]) →
    evLoop E (orc E) (24 : Nat) (rest.length + 1) (loopOf Tryz.f24 0) ⟨23, [(0, .sl 103 (all.map kT)), (3, .ref 3 1 [] 0 all.length), (4, vI i)], [(3, ⟨1, 1, false, [.own 92 es]⟩)], 2⟩ =
    some (.exit 0, ⟨23, [(0, .sl 103 (all.map kT)), (3, .ref 3 1 [] 0 all.length), (4, vI (i + rest.length : Nat)), (11, vB false)], [(3, ⟨1, 1, false, [.own 92 (es.take i ++ rest.map kT)]⟩)], 2⟩)
  | [], i, es, h, hl, hz => by
    have hge : all.length ≤ i := by simpa using h
    have hlt : ltI (i : Int) (all.length : Int) = false := ltI_f (by omega)
    have ht : es.take i = es := List.take_of_length_le (by omega)
    rw [loop_eq]
    simp +contextual -dsimp [Tryz.f24, hlt, ht]
  | x :: rest, i, es, h, hl, hz => by
    obtain ⟨hi, hc, hr⟩ := drop_cons h
    have hlt : ltI (i : Int) (all.length : Int) = true := ltI_t (by omega)
    have hw : IntKind.i64.wrap ((i : Int) + 1) = ((i + 1 : Nat) : Int) := by rw [wrapI] <;> omega
    have hi2 : i < es.length := by omega
    have hz1 : es[i] = [vI 0, vI 0, vI 0] := by
      have := hz i (Nat.le_refl _) hi
      rw [List.getElem?_eq_getElem hi2] at this
      simpa using this
    have ih := ltoClaimS all hall rest (i + 1) (es.set i (kT x)) hr (by simpa using hl) (fun j hj hj2 => by
      rw [List.getElem?_set_ne (by omega)]
      exact hz j (by omega) hj2)
    have he : i + 1 + rest.length = i + (rest.length + 1) := by omega
    have hes : (es.set i (kT x)).take (i + 1) = es.take i ++ [kT x] := by
      rw [List.take_add_one, List.take_set_of_le (Nat.le_refl _)]
      simp [hi2]
    rw [he, hes, List.append_assoc] at ih
    have g := g_toClaim x
    refine evLoop_next ?_ (by simpa only [List.length_cons, List.map_cons, List.singleton_append] using ih)
    simp (maxSteps := 1000000) +contextual -dsimp [Tryz.f24, hlt, hi, hc, hw, hz1, hl, g, List.set]

theorem g_toClaimS (l : List Claim) (hl : l.length ≤ 1048576) : ∃ b, fo 24 [A (.sl 103 (l.map kT))] = some ⟨.own 92 (l.map kT), [], b⟩ := by
  have hm : (l.length : Int) ≤ (maxElems : Nat) := by unfold maxElems; omega
  have hlp := ltoClaimS l hl l 0 (List.replicate l.length [vI 0, vI 0, vI 0]) rfl (by simp) (fun j _ hj => by simp [hj])
  refine ⟨cleanEs (l.map kT), orc_24 (l.length + 1) ?_⟩
  simp -dsimp [Tryz.f24] at hlp
  simp (maxSteps := 1000000) +contextual -dsimp [Tryz.f24, hm, hlp, List.set]

theorem g_toEngine (x : Engine) (h : wEngine x ≤ 1048576) : fo 23 [A (.agg (eTl x))] = some ⟨.agg (eT x), [], false⟩ := by
  obtain ⟨b0, g0⟩ := g_toProcS x.procs (by simp only [wEngine, wsProc] at h; omega) (fun y hy => by have := sumProc_mem hy; simp only [wEngine, wsProc] at h; omega)
  have s0 := gseal_Proc x.procs
  obtain ⟨b1, g1⟩ := g_toInstS x.insts (by simp only [wEngine, wsInst] at h; omega) (fun y hy => by have := sumInst_mem hy; simp only [wEngine, wsInst] at h; omega)
  have s1 := gseal_Inst x.insts
  refine orc_23 1 ?_
  simp (maxSteps := 1000000) +contextual -dsimp [Tryz.f23, g0, s0, g1, s1, List.set]

theorem g_toDesk (x : Desk) (h : wDesk x ≤ 1048576) : fo 8 [A (.agg (dTl x))] = some ⟨.agg (dT x), [], false⟩ := by
  have g0 := g_toEngine x.eng (by simp only [wDesk] at h; omega)
  obtain ⟨b1, g1⟩ := g_toClaimS x.claims (by simp only [wDesk] at h; omega)
  have s1 := gseal_Claim x.claims
  refine orc_8 1 ?_
  simp (maxSteps := 1000000) +contextual -dsimp [Tryz.f8, g0, g1, s1, List.set]

end Go.TM.Lr

namespace Go.TM.Lr
open Go Go.TM Go.Proofs
set_option maxRecDepth 20000
attribute [local congr] gif_cg
attribute [local simp] footOf noClash clash upsets setsHit setHits layHits layMeets setsMeet evFeet

theorem leqintS (all : List Int) (hall : all.length ≤ 1048576) : ∀ (rest : List Int) (i : Nat), all.drop i = rest →
    evLoop E (orc E) (112 : Nat) (rest.length + 1) (loopOf Tryz.f112 0) ⟨26, [(0, .sl 2 (all.map iV)), (1, .sl 2 (all.map iV)), (5, vI i)], [], 2⟩ =
    some (.exit 0, ⟨26, [(0, .sl 2 (all.map iV)), (1, .sl 2 (all.map iV)), (5, vI (i + rest.length : Nat)), (14, vB false)], [], 2⟩)
  | [], i, h => by
    have hge : all.length ≤ i := by simpa using h
    have hlt : ltI (i : Int) (all.length : Int) = false := ltI_f (by omega)
    rw [loop_eq]
    simp +contextual -dsimp [Tryz.f112, hlt]
  | x :: rest, i, h => by
    obtain ⟨hi, hc, hr⟩ := drop_cons h
    have hlt : ltI (i : Int) (all.length : Int) = true := ltI_t (by omega)
    have hw : IntKind.i64.wrap ((i : Int) + 1) = ((i + 1 : Nat) : Int) := by rw [wrapI] <;> omega
    have ih := leqintS all hall rest (i + 1) hr
    have he : i + 1 + rest.length = i + (rest.length + 1) := by omega
    rw [he] at ih
    refine evLoop_next ?_ (by simpa only [List.length_cons] using ih)
    simp (maxSteps := 1000000) +contextual -dsimp [Tryz.f112, hlt, hi, hc, hw, eqI_self]

theorem g_eqintS (l : List Int) (hl : l.length ≤ 1048576) : fo 112 [A (.sl 2 (l.map iV)), A (.sl 2 (l.map iV))] = some (R (vB true)) := by
  have hlp := leqintS l hl l 0 rfl
  refine orc_112 (l.length + 1) ?_
  simp -dsimp [Tryz.f112] at hlp
  simp (maxSteps := 1000000) +contextual -dsimp [Tryz.f112, hlp, eqI_self]

theorem g_eqNode (x : Node) : fo 153 [A (.agg (nT x)), A (.agg (nT x))] = some (R (vB true)) := by
  refine orc_153 1 ?_
  simp (maxSteps := 1000000) +contextual -dsimp [Tryz.f153, eqI_self]

theorem leqNodeS (all : List Node) (hall : all.length ≤ 1048576) : ∀ (rest : List Node) (i : Nat), all.drop i = rest →
    evLoop E (orc E) (140 : Nat) (rest.length + 1) (loopOf Tryz.f140 0) ⟨27, [(0, .sl 201 (all.map nT)), (1, .sl 201 (all.map nT)), (5, vI i)], [], 2⟩ =
    some (.exit 0, ⟨27, [(0, .sl 201 (all.map nT)), (1, .sl 201 (all.map nT)), (5, vI (i + rest.length : Nat)), (14, vB false)], [], 2⟩)
  | [], i, h => by
    have hge : all.length ≤ i := by simpa using h
    have hlt : ltI (i : Int) (all.length : Int) = false := ltI_f (by omega)
    rw [loop_eq]
    simp +contextual -dsimp [Tryz.f140, hlt]
  | x :: rest, i, h => by
    obtain ⟨hi, hc, hr⟩ := drop_cons h
    have hlt : ltI (i : Int) (all.length : Int) = true := ltI_t (by omega)
    have hw : IntKind.i64.wrap ((i : Int) + 1) = ((i + 1 : Nat) : Int) := by rw [wrapI] <;> omega
    have ih := leqNodeS all hall rest (i + 1) hr
    have he : i + 1 + rest.length = i + (rest.length + 1) := by omega
    rw [he] at ih
    have g := g_eqNode x
    refine evLoop_next ?_ (by simpa only [List.length_cons] using ih)
    simp (maxSteps := 1000000) +contextual -dsimp [Tryz.f140, hlt, hi, hc, hw, g]

theorem g_eqNodeS (l : List Node) (hl : l.length ≤ 1048576) : fo 140 [A (.sl 201 (l.map nT)), A (.sl 201 (l.map nT))] = some (R (vB true)) := by
  have hlp := leqNodeS l hl l 0 rfl
  refine orc_140 (l.length + 1) ?_
  simp -dsimp [Tryz.f140] at hlp
  simp (maxSteps := 1000000) +contextual -dsimp [Tryz.f140, hlp, eqI_self]

theorem g_eqStep (x : Step) (h : wStep x ≤ 1048576) : fo 111 [A (.agg (sT 201 x)), A (.agg (sT 201 x))] = some (R (vB true)) := by
  have g4 := g_eqNodeS x.cond (by simp only [wStep] at h; omega)
  have g5 := g_eqNodeS x.expr (by simp only [wStep] at h; omega)
  refine orc_111 1 ?_
  simp (maxSteps := 1000000) +contextual -dsimp [Tryz.f111, eqI_self, eqS_self, g4, g5]

theorem leqStepS (all : List Step) (hall : all.length ≤ 1048576) (hf : ∀ x, x ∈ all → wStep x ≤ 1048576) : ∀ (rest : List Step) (i : Nat), all.drop i = rest →
    evLoop E (orc E) (92 : Nat) (rest.length + 1) (loopOf Tryz.f92 0) ⟨27, [(0, .sl 99 (all.map (sT 201))), (1, .sl 99 (all.map (sT 201))), (5, vI i)], [], 2⟩ =
    some (.exit 0, ⟨27, [(0, .sl 99 (all.map (sT 201))), (1, .sl 99 (all.map (sT 201))), (5, vI (i + rest.length : Nat)), (14, vB false)], [], 2⟩)
  | [], i, h => by
    have hge : all.length ≤ i := by simpa using h
    have hlt : ltI (i : Int) (all.length : Int) = false := ltI_f (by omega)
    rw [loop_eq]
    simp +contextual -dsimp [Tryz.f92, hlt]
  | x :: rest, i, h => by
    obtain ⟨hi, hc, hr⟩ := drop_cons h
    have hlt : ltI (i : Int) (all.length : Int) = true := ltI_t (by omega)
    have hw : IntKind.i64.wrap ((i : Int) + 1) = ((i + 1 : Nat) : Int) := by rw [wrapI] <;> omega
    have ih := leqStepS all hall hf rest (i + 1) hr
    have he : i + 1 + rest.length = i + (rest.length + 1) := by omega
    rw [he] at ih
    have g := g_eqStep x (hf x (by rw [← hc]; exact List.getElem_mem _))
    refine evLoop_next ?_ (by simpa only [List.length_cons] using ih)
    simp (maxSteps := 1000000) +contextual -dsimp [Tryz.f92, hlt, hi, hc, hw, g]

theorem g_eqStepS (l : List Step) (hl : l.length ≤ 1048576) (hf : ∀ x, x ∈ l → wStep x ≤ 1048576) : fo 92 [A (.sl 99 (l.map (sT 201))), A (.sl 99 (l.map (sT 201)))] = some (R (vB true)) := by
  have hlp := leqStepS l hl hf l 0 rfl
  refine orc_92 (l.length + 1) ?_
  simp -dsimp [Tryz.f92] at hlp
  simp (maxSteps := 1000000) +contextual -dsimp [Tryz.f92, hlp, eqI_self]

theorem g_eqProc (x : List Step) (h : wProc x ≤ 1048576) : fo 76 [A (.agg (pT 99 201 x)), A (.agg (pT 99 201 x))] = some (R (vB true)) := by
  have g0 := g_eqStepS x (by simp only [wProc, wsStep] at h; omega) (fun y hy => by have := sumStep_mem hy; simp only [wProc, wsStep] at h; omega)
  refine orc_76 1 ?_
  simp (maxSteps := 1000000) +contextual -dsimp [Tryz.f76, g0]

theorem leqProcS (all : List (List Step)) (hall : all.length ≤ 1048576) (hf : ∀ x, x ∈ all → wProc x ≤ 1048576) : ∀ (rest : List (List Step)) (i : Nat), all.drop i = rest →
    evLoop E (orc E) (54 : Nat) (rest.length + 1) (loopOf Tryz.f54 0) ⟨27, [(0, .sl 71 (all.map (pT 99 201))), (1, .sl 71 (all.map (pT 99 201))), (5, vI i)], [], 2⟩ =
    some (.exit 0, ⟨27, [(0, .sl 71 (all.map (pT 99 201))), (1, .sl 71 (all.map (pT 99 201))), (5, vI (i + rest.length : Nat)), (14, vB false)], [], 2⟩)
  | [], i, h => by
    have hge : all.length ≤ i := by simpa using h
    have hlt : ltI (i : Int) (all.length : Int) = false := ltI_f (by omega)
    rw [loop_eq]
    simp +contextual -dsimp [Tryz.f54, hlt]
  | x :: rest, i, h => by
    obtain ⟨hi, hc, hr⟩ := drop_cons h
    have hlt : ltI (i : Int) (all.length : Int) = true := ltI_t (by omega)
    have hw : IntKind.i64.wrap ((i : Int) + 1) = ((i + 1 : Nat) : Int) := by rw [wrapI] <;> omega
    have ih := leqProcS all hall hf rest (i + 1) hr
    have he : i + 1 + rest.length = i + (rest.length + 1) := by omega
    rw [he] at ih
    have g := g_eqProc x (hf x (by rw [← hc]; exact List.getElem_mem _))
    refine evLoop_next ?_ (by simpa only [List.length_cons] using ih)
    simp (maxSteps := 1000000) +contextual -dsimp [Tryz.f54, hlt, hi, hc, hw, g]

theorem g_eqProcS (l : List (List Step)) (hl : l.length ≤ 1048576) (hf : ∀ x, x ∈ l → wProc x ≤ 1048576) : fo 54 [A (.sl 71 (l.map (pT 99 201))), A (.sl 71 (l.map (pT 99 201)))] = some (R (vB true)) := by
  have hlp := leqProcS l hl hf l 0 rfl
  refine orc_54 (l.length + 1) ?_
  simp -dsimp [Tryz.f54] at hlp
  simp (maxSteps := 1000000) +contextual -dsimp [Tryz.f54, hlp, eqI_self]

theorem g_eqChart (x : Chart) (h : wChart x ≤ 1048576) : fo 93 [A (.agg (cT x)), A (.agg (cT x))] = some (R (vB true)) := by
  have g2 := g_eqintS x.vars (by simp only [wChart] at h; omega)
  have g3 := g_eqintS x.acts (by simp only [wChart] at h; omega)
  have g4 := g_eqintS x.dues (by simp only [wChart] at h; omega)
  refine orc_93 1 ?_
  simp (maxSteps := 1000000) +contextual -dsimp [Tryz.f93, eqI_self, g2, g3, g4]

theorem g_eqInst (x : Inst) (h : wInst x ≤ 1048576) : fo 77 [A (.agg (xT x)), A (.agg (xT x))] = some (R (vB true)) := by
  have g1 := g_eqChart x.chart (by simp only [wInst] at h; omega)
  refine orc_77 1 ?_
  simp (maxSteps := 1000000) +contextual -dsimp [Tryz.f77, eqI_self, g1]

theorem leqInstS (all : List Inst) (hall : all.length ≤ 1048576) (hf : ∀ x, x ∈ all → wInst x ≤ 1048576) : ∀ (rest : List Inst) (i : Nat), all.drop i = rest →
    evLoop E (orc E) (55 : Nat) (rest.length + 1) (loopOf Tryz.f55 0) ⟨27, [(0, .sl 67 (all.map xT)), (1, .sl 67 (all.map xT)), (5, vI i)], [], 2⟩ =
    some (.exit 0, ⟨27, [(0, .sl 67 (all.map xT)), (1, .sl 67 (all.map xT)), (5, vI (i + rest.length : Nat)), (14, vB false)], [], 2⟩)
  | [], i, h => by
    have hge : all.length ≤ i := by simpa using h
    have hlt : ltI (i : Int) (all.length : Int) = false := ltI_f (by omega)
    rw [loop_eq]
    simp +contextual -dsimp [Tryz.f55, hlt]
  | x :: rest, i, h => by
    obtain ⟨hi, hc, hr⟩ := drop_cons h
    have hlt : ltI (i : Int) (all.length : Int) = true := ltI_t (by omega)
    have hw : IntKind.i64.wrap ((i : Int) + 1) = ((i + 1 : Nat) : Int) := by rw [wrapI] <;> omega
    have ih := leqInstS all hall hf rest (i + 1) hr
    have he : i + 1 + rest.length = i + (rest.length + 1) := by omega
    rw [he] at ih
    have g := g_eqInst x (hf x (by rw [← hc]; exact List.getElem_mem _))
    refine evLoop_next ?_ (by simpa only [List.length_cons] using ih)
    simp (maxSteps := 1000000) +contextual -dsimp [Tryz.f55, hlt, hi, hc, hw, g]

theorem g_eqInstS (l : List Inst) (hl : l.length ≤ 1048576) (hf : ∀ x, x ∈ l → wInst x ≤ 1048576) : fo 55 [A (.sl 67 (l.map xT)), A (.sl 67 (l.map xT))] = some (R (vB true)) := by
  have hlp := leqInstS l hl hf l 0 rfl
  refine orc_55 (l.length + 1) ?_
  simp -dsimp [Tryz.f55] at hlp
  simp (maxSteps := 1000000) +contextual -dsimp [Tryz.f55, hlp, eqI_self]

theorem g_eqClaim (x : Claim) : fo 56 [A (.agg (kT x)), A (.agg (kT x))] = some (R (vB true)) := by
  refine orc_56 1 ?_
  simp (maxSteps := 1000000) +contextual -dsimp [Tryz.f56, eqI_self]

theorem leqClaimS (all : List Claim) (hall : all.length ≤ 1048576) : ∀ (rest : List Claim) (i : Nat), all.drop i = rest →
    evLoop E (orc E) (29 : Nat) (rest.length + 1) (loopOf Tryz.f29 0) ⟨27, [(0, .sl 92 (all.map kT)), (1, .sl 92 (all.map kT)), (5, vI i)], [], 2⟩ =
    some (.exit 0, ⟨27, [(0, .sl 92 (all.map kT)), (1, .sl 92 (all.map kT)), (5, vI (i + rest.length : Nat)), (14, vB false)], [], 2⟩)
  | [], i, h => by
    have hge : all.length ≤ i := by simpa using h
    have hlt : ltI (i : Int) (all.length : Int) = false := ltI_f (by omega)
    rw [loop_eq]
    simp +contextual -dsimp [Tryz.f29, hlt]
  | x :: rest, i, h => by
    obtain ⟨hi, hc, hr⟩ := drop_cons h
    have hlt : ltI (i : Int) (all.length : Int) = true := ltI_t (by omega)
    have hw : IntKind.i64.wrap ((i : Int) + 1) = ((i + 1 : Nat) : Int) := by rw [wrapI] <;> omega
    have ih := leqClaimS all hall rest (i + 1) hr
    have he : i + 1 + rest.length = i + (rest.length + 1) := by omega
    rw [he] at ih
    have g := g_eqClaim x
    refine evLoop_next ?_ (by simpa only [List.length_cons] using ih)
    simp (maxSteps := 1000000) +contextual -dsimp [Tryz.f29, hlt, hi, hc, hw, g]

theorem g_eqClaimS (l : List Claim) (hl : l.length ≤ 1048576) : fo 29 [A (.sl 92 (l.map kT)), A (.sl 92 (l.map kT))] = some (R (vB true)) := by
  have hlp := leqClaimS l hl l 0 rfl
  refine orc_29 (l.length + 1) ?_
  simp -dsimp [Tryz.f29] at hlp
  simp (maxSteps := 1000000) +contextual -dsimp [Tryz.f29, hlp, eqI_self]

theorem g_eqEngine (x : Engine) (h : wEngine x ≤ 1048576) : fo 28 [A (.agg (eT x)), A (.agg (eT x))] = some (R (vB true)) := by
  have g0 := g_eqProcS x.procs (by simp only [wEngine, wsProc] at h; omega) (fun y hy => by have := sumProc_mem hy; simp only [wEngine, wsProc] at h; omega)
  have g1 := g_eqInstS x.insts (by simp only [wEngine, wsInst] at h; omega) (fun y hy => by have := sumInst_mem hy; simp only [wEngine, wsInst] at h; omega)
  refine orc_28 1 ?_
  simp (maxSteps := 1000000) +contextual -dsimp [Tryz.f28, eqI_self, g0, g1]

theorem g_eqDesk (x : Desk) (h : wDesk x ≤ 1048576) : fo 10 [A (.agg (dT x)), A (.agg (dT x))] = some (R (vB true)) := by
  have g0 := g_eqEngine x.eng (by simp only [wDesk] at h; omega)
  have g1 := g_eqClaimS x.claims (by simp only [wDesk] at h; omega)
  refine orc_10 1 ?_
  simp (maxSteps := 1000000) +contextual -dsimp [Tryz.f10, g0, g1]

end Go.TM.Lr

namespace Go.TM.Lr
open Go Go.TM Go.Proofs
set_option maxRecDepth 20000
attribute [local congr] gif_cg
attribute [local simp] footOf noClash clash upsets setsHit setHits layHits layMeets setsMeet evFeet

structure FitD (d : Desk) : Prop where
  eng : FitE d.eng
  claims : d.claims.length < 2 ^ 62

theorem fw_step {s : Step} (h : FitS s) : FwStep s := ⟨h.name, h.cond, h.expr⟩
theorem fw_proc {p : List Step} (h : FitP p) : FwProc p := ⟨h.len, fun s hs => fw_step (h.steps s hs)⟩
theorem fw_chart {c : Chart} (h : FitC c) : FwChart c := ⟨h.vars, h.acts, h.dues⟩
theorem fw_engine {e : Engine} (h : FitE e) : FwEngine e := ⟨⟨h.np, fun p hp => fw_proc (h.procs p hp)⟩, ⟨h.ni, fun x hx => fw_chart (h.insts x hx)⟩⟩
theorem fw_desk {d : Desk} (h : FitD d) : FwDesk d := ⟨fw_engine h.eng, h.claims⟩

theorem eqB_self (b : Bool) : eqB b b = true := by simp [eqB]

set_option maxHeartbeats 8000000 in
theorem f_LawLive (d : Desk) (hf : FitD d) : fo 3 [A (.agg (dTl d))] = some (R (vB true)) := by
  have g6 := g_szDesk d 1048576 (by omega) (by omega) (fw_desk hf)
  refine orc_3 1 ?_
  cases c1 : ltI (subM 1048576 (wDesk d)) 0
  · obtain ⟨p, e⟩ := sub_f c1
    rw [e] at g6 c1
    have hw : wDesk d ≤ 1048576 := by omega
    have g8 := g_toDesk d hw
    have g7 := f4_LiveRight d hf.eng hf.claims
    have g9 := f_LiveRight d hf.eng hf.claims
    have g10 := g_eqDesk d hw
    simp (maxSteps := 1000000) +contextual -dsimp [Tryz.f3, g6, g7, g8, g9, g10, eqB_self, c1, List.set]
  · simp (maxSteps := 1000000) +contextual -dsimp [Tryz.f3, g6, c1]

set_option maxHeartbeats 8000000 in
theorem f_LawCount (d : Desk) (hf : FitD d) : fo 4 [A (.agg (dTl d))] = some (R (vB true)) := by
  have g6 := g_szDesk d 1048576 (by omega) (by omega) (fw_desk hf)
  refine orc_4 1 ?_
  cases c1 : ltI (subM 1048576 (wDesk d)) 0
  · obtain ⟨p, e⟩ := sub_f c1
    rw [e] at g6 c1
    have hw : wDesk d ≤ 1048576 := by omega
    have g8 := g_toDesk d hw
    have g7 := f4_CountOpen d hf.eng hf.claims
    have g9 := f_CountOpen d hf.eng hf.claims
    have g10 := g_eqDesk d hw
    have g13 := f_eqIntResult (countM d).1 (countM d).2
    simp (maxSteps := 1000000) +contextual -dsimp [Tryz.f4, g6, g7, g8, g9, g10, g13, c1, List.set]
  · simp (maxSteps := 1000000) +contextual -dsimp [Tryz.f4, g6, c1]

/-! ### the argument -/
theorem arg_plain : plainT (szOf E) Tryz.prog 9 28 = true := by kernel_rfl

theorem tree_int {n : Nat} {ts : List T} (h : TreeT Tryz.prog (n + 1) 2 ts) : ∃ x, ts = [vI x] ∧ -9223372036854775808 ≤ x ∧ x < 9223372036854775808 := by
  unfold TreeT at h
  rw [Tryz.underlying2] at h
  obtain ⟨x, rfl, hw⟩ := h
  have := bounds_i64 hw
  exact ⟨x, rfl, by omega, by omega⟩

theorem map_of {α β : Type} {f : α → β} {p : α → Prop} : ∀ {l : List β}, (∀ c, c ∈ l → ∃ x, c = f x ∧ p x) → ∃ xs : List α, l = xs.map f ∧ ∀ x, x ∈ xs → p x
  | [], _ => ⟨[], rfl, fun x hx => by simp at hx⟩
  | c :: l, h => by
    obtain ⟨x, rfl, hx⟩ := h c (by simp)
    obtain ⟨xs, rfl, hxs⟩ := map_of (f := f) (p := p) (l := l) fun d hd => h d (by simp [hd])
    exact ⟨x :: xs, rfl, fun y hy => by
      rcases List.mem_cons.1 hy with rfl | hy
      · exact hx
      · exact hxs y hy⟩

/-- A slice of things that are read. -/
theorem tree_slice {α : Type} {P : Program} {n : Nat} {t e : TypeId} {ts : List T} {f : α → List T} {p : α → Prop} (hu : P.underlying t = some (.slice e)) (h : TreeT P (n + 1) t ts)
    (hx : ∀ c, TreeT P n e c → ∃ x, c = f x ∧ p x) : ∃ l : List α, ts = [.sl e (l.map f)] ∧ l.length < 2 ^ 62 ∧ ∀ x, x ∈ l → p x := by
  unfold TreeT at h
  rw [hu] at h
  obtain ⟨es, rfl, hl, h2⟩ := h
  obtain ⟨xs, rfl, hp⟩ := map_of (f := f) (p := p) (l := es) fun c hc => hx c (h2 c hc)
  refine ⟨xs, rfl, ?_, hp⟩
  simp at hl; unfold reachBytes at hl; omega

theorem tree_node {n : Nat} {ts : List T} (h : TreeT Tryz.prog (n + 2) 206 ts) : ∃ x, ts = nT x ∧ True := by
  unfold TreeT at h
  rw [Tryz.underlying206] at h
  obtain ⟨c1, r1, rfl, h1, c2, r2, rfl, h2, c3, r3, rfl, h3, c4, r4, rfl, h4, rfl⟩ := h
  obtain ⟨x1, rfl, _⟩ := tree_int h1
  obtain ⟨x2, rfl, _⟩ := tree_int h2
  obtain ⟨x3, rfl, _⟩ := tree_int h3
  obtain ⟨x4, rfl, _⟩ := tree_int h4
  exact ⟨⟨x1, x2, x3, x4⟩, rfl, trivial⟩

theorem tree_step {n : Nat} {ts : List T} (h : TreeT Tryz.prog (n + 4) 162 ts) : ∃ s : Step, ts = sT 206 s ∧ FitS s := by
  unfold TreeT at h
  rw [Tryz.underlying162] at h
  obtain ⟨c1, r1, rfl, h1, c2, r2, rfl, h2, c3, r3, rfl, h3, c4, r4, rfl, h4, c5, r5, rfl, h5, c6, r6, rfl, h6, rfl⟩ := h
  obtain ⟨x1, rfl, _⟩ := tree_int h1
  obtain ⟨x2, rfl, p1, p2⟩ := tree_int h2
  obtain ⟨x4, rfl, _⟩ := tree_int h4
  obtain ⟨x5, rfl, l5, _⟩ := tree_slice (f := nT) (p := fun _ => True) Tryz.underlying160 h5 fun c hc => tree_node hc
  obtain ⟨x6, rfl, l6, _⟩ := tree_slice (f := nT) (p := fun _ => True) Tryz.underlying160 h6 fun c hc => tree_node hc
  simp only at h3
  unfold TreeT at h3
  rw [Tryz.underlying9] at h3
  obtain ⟨x3, rfl, l3⟩ := h3
  exact ⟨⟨x1, x2, x3, x4, x5, x6⟩, rfl, p1, p2, by unfold reachBytes at l3; simp; omega, l5, l6⟩

theorem tree_proc {n : Nat} {ts : List T} (h : TreeT Tryz.prog (n + 6) 120 ts) : ∃ p : List Step, ts = pT 162 206 p ∧ FitP p := by
  unfold TreeT at h
  rw [Tryz.underlying120] at h
  obtain ⟨c1, r1, rfl, h1, rfl⟩ := h
  obtain ⟨l, rfl, hl, hf⟩ := tree_slice (f := sT 206) (p := FitS) Tryz.underlying118 h1 fun c hc => tree_step hc
  exact ⟨l, rfl, hl, hf⟩

theorem tree_ints {n : Nat} {ts : List T} (h : TreeT Tryz.prog (n + 2) 63 ts) : ∃ l : List Int, ts = [iS l] ∧ l.length < 2 ^ 62 := by
  obtain ⟨l, rfl, hl, _⟩ := tree_slice (f := fun n => [vI n]) (p := fun _ => True) Tryz.underlying63 h fun c hc => by
    obtain ⟨x, rfl, _⟩ := tree_int hc
    exact ⟨x, rfl, trivial⟩
  exact ⟨l, rfl, hl⟩

theorem tree_chart {n : Nat} {ts : List T} (h : TreeT Tryz.prog (n + 3) 122 ts) : ∃ c : Chart, ts = cT c ∧ FitC c := by
  unfold TreeT at h
  rw [Tryz.underlying122] at h
  obtain ⟨c1, r1, rfl, h1, c2, r2, rfl, h2, c3, r3, rfl, h3, c4, r4, rfl, h4, c5, r5, rfl, h5, rfl⟩ := h
  obtain ⟨x1, rfl, _⟩ := tree_int h1
  obtain ⟨x2, rfl, _⟩ := tree_int h2
  obtain ⟨x3, rfl, l3⟩ := tree_ints h3
  obtain ⟨x4, rfl, l4⟩ := tree_ints h4
  obtain ⟨x5, rfl, l5⟩ := tree_ints h5
  exact ⟨⟨x1, x2, x3, x4, x5⟩, rfl, l3, l4, l5⟩

theorem tree_inst {n : Nat} {ts : List T} (h : TreeT Tryz.prog (n + 4) 124 ts) : ∃ x : Inst, ts = xT x ∧ FitC x.chart := by
  unfold TreeT at h
  rw [Tryz.underlying124] at h
  obtain ⟨c1, r1, rfl, h1, c2, r2, rfl, h2, rfl⟩ := h
  obtain ⟨x1, rfl, _⟩ := tree_int h1
  obtain ⟨x2, rfl, f2⟩ := tree_chart h2
  exact ⟨⟨x1, x2⟩, rfl, f2⟩

theorem tree_claim {n : Nat} {ts : List T} (h : TreeT Tryz.prog (n + 2) 103 ts) : ∃ x : Claim, ts = kT x ∧ True := by
  unfold TreeT at h
  rw [Tryz.underlying103] at h
  obtain ⟨c1, r1, rfl, h1, c2, r2, rfl, h2, c3, r3, rfl, h3, rfl⟩ := h
  obtain ⟨x1, rfl, _⟩ := tree_int h1
  obtain ⟨x2, rfl, _⟩ := tree_int h2
  obtain ⟨x3, rfl, _⟩ := tree_int h3
  exact ⟨⟨x1, x2, x3⟩, rfl, trivial⟩

theorem tree_engine {n : Nat} {ts : List T} (h : TreeT Tryz.prog (n + 8) 25 ts) : ∃ e : Engine, ts = eTl e ∧ FitE e := by
  unfold TreeT at h
  rw [Tryz.underlying25] at h
  obtain ⟨c1, r1, rfl, h1, c2, r2, rfl, h2, c3, r3, rfl, h3, rfl⟩ := h
  obtain ⟨x1, rfl, l1, f1⟩ := tree_slice (f := pT 162 206) (p := FitP) Tryz.underlying22 h1 fun c hc => tree_proc hc
  obtain ⟨x2, rfl, l2, f2⟩ := tree_slice (f := xT) (p := fun x => FitC x.chart) Tryz.underlying23 h2 fun c hc => tree_inst hc
  obtain ⟨x3, rfl, _⟩ := tree_int h3
  exact ⟨⟨x1, x2, x3⟩, rfl, l1, l2, f1, f2⟩

theorem tree_desk {ts : List T} (h : TreeT Tryz.prog 9 28 ts) : ∃ d : Desk, ts = dTl d ∧ FitD d := by
  unfold TreeT at h
  rw [Tryz.underlying28] at h
  obtain ⟨c1, r1, rfl, h1, c2, r2, rfl, h2, rfl⟩ := h
  obtain ⟨x1, rfl, f1⟩ := tree_engine h1
  obtain ⟨x2, rfl, l2, _⟩ := tree_slice (f := kT) (p := fun _ => True) Tryz.underlying26 h2 fun c hc => tree_claim hc
  exact ⟨⟨x1, x2⟩, rfl, f1, l2⟩
end Go.TM.Lr
