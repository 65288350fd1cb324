import Derived.Test.YtelhpkghpoldlaaGreatE2

namespace Go.TM.Lr
open Go Go.TM Go.Proofs
set_option maxRecDepth 20000

abbrev vI (n : Int) : T := .v (.int .i64 n)
abbrev vB (b : Bool) : T := .v (.bool b)
abbrev vS (s : ByteArray) : T := .v (.string s)
abbrev A (t : T) : Arg := ⟨t, none⟩
abbrev R (t : T) : Res := ⟨t, [], true⟩

/-! ### comparisons, closed: a rewriting does not look into them -/
def eqI (a b : Int) : Bool := a == b
def leI (a b : Int) : Bool := decide (a ≤ b)
def ltI (a b : Int) : Bool := decide (a < b)
def eqB (a b : Bool) : Bool := a == b
def eqS (a b : ByteArray) : Bool := a.toList == b.toList
theorem eqI_t {a b : Int} (h : a = b) : eqI a b = true := by simp [eqI, h]
theorem eqI_f {a b : Int} (h : a ≠ b) : eqI a b = false := by simp [eqI, h]
theorem leI_t {a b : Int} (h : a ≤ b) : leI a b = true := by simp [leI, h]
theorem leI_f {a b : Int} (h : ¬ a ≤ b) : leI a b = false := by simp [leI]; omega
theorem ltI_t {a b : Int} (h : a < b) : ltI a b = true := by simp [ltI, h]
theorem ltI_f {a b : Int} (h : ¬ a < b) : ltI a b = false := by simp [ltI]; omega
theorem eqS_self (a : ByteArray) : eqS a a = true := by simp [eqS]

section pr
variable (P : Program) (t : TypeId) (x y : Operand)
theorem pr_leq (k : IntKind) (a b : Int) : pureRun P (do eqGuard .leq t x y (.int k a) (.int k b); binOp .leq t (.int k a) (.int k b)) = some (.bool (leI a b)) := by cases k <;> rfl
theorem pr_lss (k : IntKind) (a b : Int) : pureRun P (do eqGuard .lss t x y (.int k a) (.int k b); binOp .lss t (.int k a) (.int k b)) = some (.bool (ltI a b)) := by cases k <;> rfl
theorem pr_gtr (k : IntKind) (a b : Int) : pureRun P (do eqGuard .gtr t x y (.int k a) (.int k b); binOp .gtr t (.int k a) (.int k b)) = some (.bool (ltI b a)) := by cases k <;> rfl
theorem pr_geq (k : IntKind) (a b : Int) : pureRun P (do eqGuard .geq t x y (.int k a) (.int k b); binOp .geq t (.int k a) (.int k b)) = some (.bool (leI b a)) := by cases k <;> rfl
theorem pr_eql (k : IntKind) (a b : Int) : pureRun P (do eqGuard .eql t x y (.int k a) (.int k b); binOp .eql t (.int k a) (.int k b)) = some (.bool (eqI a b)) := by cases k <;> rfl
theorem pr_neq (k : IntKind) (a b : Int) : pureRun P (do eqGuard .neq t x y (.int k a) (.int k b); binOp .neq t (.int k a) (.int k b)) = some (.bool (notB (eqI a b))) := by cases k <;> rfl
theorem pr_add (k : IntKind) (a b : Int) : pureRun P (do eqGuard .add t x y (.int k a) (.int k b); binOp .add t (.int k a) (.int k b)) = some (.int k (k.wrap (a + b))) := by cases k <;> rfl
theorem pr_sub (k : IntKind) (a b : Int) : pureRun P (do eqGuard .sub t x y (.int k a) (.int k b); binOp .sub t (.int k a) (.int k b)) = some (.int k (k.wrap (a - b))) := by cases k <;> rfl
theorem pr_eqlB (a b : Bool) : pureRun Tryz.prog (do eqGuard .eql 4 x y (.bool a) (.bool b); binOp .eql 4 (.bool a) (.bool b)) = some (.bool (eqB a b)) := by kernel_rfl
theorem pr_neqB (a b : Bool) : pureRun Tryz.prog (do eqGuard .neq 4 x y (.bool a) (.bool b); binOp .neq 4 (.bool a) (.bool b)) = some (.bool (notB (eqB a b))) := by kernel_rfl
theorem pr_eqlS (a b : ByteArray) : pureRun P (do eqGuard .eql t x y (.string a) (.string b); binOp .eql t (.string a) (.string b)) = some (.bool (eqS a b)) := rfl
theorem pr_neqS (a b : ByteArray) : pureRun P (do eqGuard .neq t x y (.string a) (.string b); binOp .neq t (.string a) (.string b)) = some (.bool (notB (eqS a b))) := rfl
theorem pr_idx (s : ByteArray) (i : Int) (b : UInt8) (h : 0 ≤ i) (hb : s[i.toNat]? = some b) : pureRun Tryz.prog (Instr.index 9 (.string s) (.int .i64 i)) = some (.int .u8 b.toNat) := by
  have h1 : Tryz.prog.underlying 9 = some .string := by kernel_rfl
  simp [Instr.index, asIntOf, underlying, program, pureRun, Sem.bind, Bind.bind, Pure.pure, h1, h, hb]
theorem pr_lenS (s : ByteArray) : pureRun Tryz.prog (Builtin.len_ #[9] t #[.string s]) = some (.int .i64 s.size) := by kernel_rfl
theorem pr_not (a : Bool) : pureRun P (Op.unary .not (.bool a)) = some (.bool (notB a)) := rfl
end pr
attribute [simp] body_eq code_seq code_block code_skip code_ret code_exit code_loop code_cond code_region thenC_normal thenC_ret thenC_exit thenC_none outB_normal outB_ret outB_exit outB_none endB_normal endB_ret thenC_ite thenC_ite' outB_ite outB_ite' endB_ite endB_ite' nextL_normal nextL_ret nextL_exit nextL_ite nextL_ite' ite_Res evRegion evOps evOne wanted initFr initRt evOp Rd.of Rd.bind Rd.run Rd.touched St.val lk up toVal plainEff St.apply setsOk setsApart apartFrom newOk setCells setCell strike unspent spent only reFr reRt reX re1 re0 stampOf isDead finish resTop resAll resOne closeT closeL close1 outsOf tupled clean cleanL cleanEs nilOf
  E_P E_ext pr_leq pr_lss pr_gtr pr_geq pr_eql pr_neq pr_add pr_sub pr_not pr_eqlB pr_neqB pr_eqlS pr_neqS pr_lenS callEff mkArgs mkArg seal2 seal1 seal0 sealCells distinct comeBack sealRes seal_ sealL sealEs Eff.with
  ite_T ite_vint ite_some' orB_tr orB_fr andB_tr andB_fr orB_tl orB_fl andB_tl andB_fl notB_t notB_f notB_notB gif_t gif_f gif_same gif_and gif_some gif_Eff gif_T eqW_t eqW_f wantV_bool' wantV_undef' wantV_gif gif_bf pif_t pif_f pickT_v pick_or pick_or2 pick_or2a pick_and pick_and2 pick_and4 pick_and5 pick_or3 pick_and3
  content rdPlace rdCells rdRow splice setRow wrRow takeRef inline1 inlineL descend graft view1 viewFrom closed1 flat1 tupView tupCells bare rooted boundOf cap1 one1 srcOf dstOf stamp fillParts fillElems partCells zeroAt evBuildParts evElems lentRow Root.at_ newOk
  loopOf loopsC evOpsK pause without args sliceLen valsOf oneVal intArg loadT cell1 anyOwn isOwn T.cells
end Go.TM.Lr

namespace Go.TM.Lr
open Go Go.TM Go.Proofs
set_option maxRecDepth 20000
attribute [local congr] gif_cg

def inR (n low high : Int) : Bool := andB (leI low n) (leI n high)

theorem f_inRange (a b c : Int) : fo 69 [A (vI a), A (vI b), A (vI c)] = some (R (vB (inR a b c))) := by
  refine orc_69 1 ?_
  simp +contextual -dsimp [Tryz.f69, inR]

theorem f_codeIf (b : Bool) (c : Int) : fo 48 [A (vB b), A (vI c)] = some (R (vI (if b then c else 0))) := by
  refine orc_48 1 ?_
  cases b <;> simp -dsimp [Tryz.f48]

theorem f_isLeaf (k : Int) : fo 53 [A (vI k)] = some (R (vB (orB (orB (eqI k 2) (eqI k 5)) (eqI k 6)))) := by
  refine orc_53 1 ?_
  simp +contextual -dsimp [Tryz.f53]

theorem f_l1In (a b c : Int) : fo 39 [A (vI a), A (vI b), A (vI c)] = some (R (vB (inR a b c))) := by
  refine orc_39 1 ?_
  simp +contextual -dsimp [Tryz.f39, inR]

theorem f_l3Two (a : Int) : fo 154 [A (vI a)] = some (R (vB (inR a 3 9))) := by
  refine orc_154 1 ?_
  simp -dsimp [Tryz.f154, f_l1In]

theorem f_isTwo (a : Int) : fo 151 [A (vI a)] = some (R (vB (inR a 3 9))) := by
  refine orc_151 1 ?_
  simp -dsimp [Tryz.f151, f_inRange]

theorem f_isSmall (c : Int) : fo 149 [A (.v (.int .u8 c))] = some (R (vB (inR c 97 122))) := by
  refine orc_149 1 ?_
  simp +contextual -dsimp [Tryz.f149, inR]
end Go.TM.Lr

namespace Go.TM.Lr
open Go Go.TM Go.Proofs
set_option maxRecDepth 20000
attribute [local congr] gif_cg

structure Node where
  kind : Int
  value : Int
  left : Int
  right : Int
structure Step where
  kind : Int
  parent : Int
  name : ByteArray
  arg : Int
  cond : List Node
  expr : List Node
abbrev nT (n : Node) : List T := [vI n.kind, vI n.value, vI n.left, vI n.right]
abbrev nS (e : TypeId) (l : List Node) : T := .sl e (l.map nT)
abbrev sT (e : TypeId) (s : Step) : List T := [vI s.kind, vI s.parent, vS s.name, vI s.arg, nS e s.cond, nS e s.expr]
abbrev emp : ByteArray := ⟨#[]⟩

def first2 (a b : Int) : Int := if eqI a 0 then b else a

/-- firstCode of two codes. -/
theorem f_first2 (a b : Int) : fo 33 [A (.sl 2 [[vI a], [vI b]])] = some (R (vI (first2 a b))) := by
  have h0 : ltI 0 2 = true := rfl
  have h1 : ltI 1 2 = true := rfl
  have h2 : ltI 2 2 = false := rfl
  have w1 : IntKind.i64.wrap 1 = 1 := rfl
  have w2 : IntKind.i64.wrap 2 = 2 := rfl
  refine orc_33 4 ?_
  cases ha : eqI a 0
  · simp -dsimp [Tryz.f33, loop_eq, h0, ha, first2]
  · cases hb : eqI b 0
    · simp -dsimp [Tryz.f33, loop_eq, h0, h1, w1, ha, hb, first2]
    · simp -dsimp [Tryz.f33, loop_eq, h0, h1, h2, w1, w2, ha, hb, first2]
      simp [eqI] at hb; exact hb.symm

theorem f_l4Bare (s : Step) : fo 119 [A (.ipt (sT 201 s))] = some (R (vB (andB (andB (orB (eqI s.kind 2) (eqS s.name emp)) (orB (inR s.kind 5 8) (eqI s.arg 0))) (orB (eqI s.kind 7) (eqI s.expr.length 0))))) := by
  refine orc_119 1 ?_
  simp +contextual -dsimp [Tryz.f119, f_l1In]

def argM (k a : Int) : Bool := if eqI k 5 then inR a 0 9 else if eqI k 6 || eqI k 8 then inR a 1 99 else if eqI k 7 then inR a 0 3 else true

theorem f_l4Arg (s : Step) : fo 123 [A (.ipt (sT 201 s))] = some (R (vB (argM s.kind s.arg))) := by
  refine orc_123 1 ?_
  cases h5 : eqI s.kind 5
  · cases h6 : eqI s.kind 6
    · cases h8 : eqI s.kind 8
      · cases h7 : eqI s.kind 7
        · simp -dsimp [Tryz.f123, h5, h6, h8, h7, argM]
        · simp -dsimp [Tryz.f123, f_l1In, h5, h6, h8, h7, argM]
      · simp -dsimp [Tryz.f123, f_l1In, h5, h6, h8, argM]
    · simp -dsimp [Tryz.f123, f_l1In, h5, h6, argM]
  · simp -dsimp [Tryz.f123, f_l1In, h5, argM]

abbrev R2 (a b : T) : Res := ⟨.tup [a, b], [], true⟩

def argB (k : Int) : Int × Int := if eqI k 5 then (0, 9) else if eqI k 6 || eqI k 8 then (1, 99) else if eqI k 7 then (0, 3) else (0, 0)

theorem f_argBounds (k : Int) : fo 129 [A (vI k)] = some (R2 (vI (argB k).1) (vI (argB k).2)) := by
  refine orc_129 1 ?_
  cases h5 : eqI k 5
  · cases h6 : eqI k 6
    · cases h8 : eqI k 8
      · cases h7 : eqI k 7
        · simp -dsimp [Tryz.f129, h5, h6, h8, h7, argB]
        · simp -dsimp [Tryz.f129, h5, h6, h8, h7, argB]
      · simp -dsimp [Tryz.f129, h5, h6, h8, argB]
    · simp -dsimp [Tryz.f129, h5, h6, argB]
  · simp -dsimp [Tryz.f129, h5, argB]

def kidB (k : Int) : Int × Int := if eqI k 1 then (1, 24) else if eqI k 3 || eqI k 4 then (2, 24) else if eqI k 8 then (2, 2) else (0, 0)

theorem f_kidBounds (k : Int) : fo 134 [A (vI k)] = some (R2 (vI (kidB k).1) (vI (kidB k).2)) := by
  refine orc_134 1 ?_
  cases h5 : eqI k 1
  · cases h6 : eqI k 3
    · cases h8 : eqI k 4
      · cases h7 : eqI k 8
        · simp -dsimp [Tryz.f134, h5, h6, h8, h7, kidB]
        · simp -dsimp [Tryz.f134, h5, h6, h8, h7, kidB]
      · simp -dsimp [Tryz.f134, h5, h6, h8, kidB]
    · simp -dsimp [Tryz.f134, h5, h6, kidB]
  · simp -dsimp [Tryz.f134, h5, kidB]

def partB (k : Int) : Int × Int := if leI k 6 then (1, 1) else if leI k 8 then (1, 2) else (2, 2)

theorem f_partType (k : Int) : fo 152 [A (vI k)] = some (R2 (vI (partB k).1) (vI (partB k).2)) := by
  refine orc_152 1 ?_
  cases h5 : leI k 6
  · cases h6 : leI k 8
    · simp -dsimp [Tryz.f152, h5, h6, partB]
    · simp -dsimp [Tryz.f152, h5, h6, partB]
  · simp -dsimp [Tryz.f152, h5, partB]
end Go.TM.Lr

namespace Go.TM.Lr
open Go Go.TM Go.Proofs
set_option maxRecDepth 20000
attribute [local congr] gif_cg

abbrev iW (l : List Int) : List (List T) := l.map fun n => [vI n]
abbrev argW (out : List Int) : Arg := ⟨.ref 2 0 [] 0 out.length, some ⟨0, 0, false, [.own 2 (iW out)]⟩⟩

def walk4M (l : List Node) : Nat → Nat → List Int → List Int
  | 0, _, out => out
  | f + 1, at_, out =>
    match l[at_]? with
    | none => out
    | some n =>
      if ltI 16 out.length = true then out
      else if ltI 2 n.kind = true then
        (if inR n.kind 3 9 = true then walk4M l f n.right.toNat (walk4M l f n.left.toNat out) else walk4M l f n.left.toNat out) ++ [(at_ : Int)]
      else out ++ [(at_ : Int)]

def Good (l : List Node) : Prop := ∀ (k : Nat) (h : k < l.length), (ltI 2 (l[k]).kind = true → 0 ≤ (l[k]).left ∧ (l[k]).left < k) ∧ (inR (l[k]).kind 3 9 = true → 0 ≤ (l[k]).right ∧ (l[k]).right < k)

theorem walk4_len (l : List Node) : ∀ (f at_ : Nat) (out : List Int), (walk4M l f at_ out).length + 1 ≤ out.length + 2 ^ f
  | 0, at_, out => by simp [walk4M]
  | f + 1, at_, out => by
    have h1 := fun a o => walk4_len l f a o
    have h2 : 0 < 2 ^ f := Nat.pow_pos (by omega)
    have h3 : 2 ^ (f + 1) = 2 * 2 ^ f := by rw [Nat.pow_succ]; omega
    unfold walk4M
    split
    · omega
    · rename_i n _
      split
      · omega
      · split
        · split
          · have := h1 n.right.toNat (walk4M l f n.left.toNat out)
            have := h1 n.left.toNat out
            simp only [List.length_append, List.length_cons, List.length_nil]
            omega
          · have := h1 n.left.toNat out
            simp only [List.length_append, List.length_cons, List.length_nil]
            omega
        · simp only [List.length_append, List.length_cons, List.length_nil]
          omega

theorem clean_iW (l : List Int) : cleanEs (iW l) = true := by induction l <;> simp_all [cleanEs, cleanL, clean]

theorem f_l3Walk (l : List Node) (hg : Good l) : ∀ (f at_ : Nat) (out : List Int), at_ < f → at_ < l.length → f ≤ 16 → out.length ≤ 1000000 →
    fo 146 [A (nS 201 l), A (vI at_), argW out] = some ⟨.own 2 (iW (walk4M l f at_ out)), [], true⟩
  | 0, at_, out, h, _, _, _ => by omega
  | f + 1, at_, out, h, hl, hf, ho => by
    obtain ⟨g1, g2⟩ := hg at_ hl
    have hn : l[at_]? = some l[at_] := by simp [hl]
    have hm1 : out.length + 1 ≤ maxElems := by unfold maxElems; omega
    refine orc_146 1 ?_
    unfold walk4M
    rw [hn]
    simp only
    cases c1 : ltI 16 out.length
    · cases c2 : ltI 2 (l[at_]).kind
      · have c3 : inR (l[at_]).kind 3 9 = false := by simp [ltI, inR, andB, leI] at c2 ⊢; omega
        have hc : cleanEs (iW out ++ [[vI at_]]) = true := by simpa using clean_iW (out ++ [(at_ : Int)])
        simp (maxSteps := 1000000) +contextual -dsimp [Tryz.f146, f_l3Two, hl, hm1, c1, c2, c3, hc]
      · obtain ⟨p1, p2⟩ := g1 c2
        obtain ⟨a, ha⟩ := Int.eq_ofNat_of_zero_le p1
        have ga := f_l3Walk l hg f a out (by omega) (by omega) (by omega) ho
        have la := walk4_len l f a out
        have l16 : out.length ≤ 16 := by simp [ltI] at c1; omega
        have hpow : 2 ^ f ≤ 32768 := by
          have := Nat.pow_le_pow_right (n := 2) (by omega) (show f ≤ 15 by omega)
          omega
        have ta : (l[at_]).left.toNat = a := by omega
        cases c3 : inR (l[at_]).kind 3 9
        · have hm2 : (walk4M l f a out).length + 1 ≤ maxElems := by unfold maxElems; omega
          have hc : cleanEs (iW (walk4M l f a out) ++ [[vI at_]]) = true := by simpa using clean_iW (walk4M l f a out ++ [(at_ : Int)])
          simp (maxSteps := 1000000) +contextual -dsimp [Tryz.f146, f_l3Two, hl, hm2, c1, c2, c3, ha, ga, hc]
        · obtain ⟨p3, p4⟩ := g2 c3
          obtain ⟨b, hb⟩ := Int.eq_ofNat_of_zero_le p3
          have gb := f_l3Walk l hg f b (walk4M l f a out) (by omega) (by omega) (by omega) (by omega)
          have lb := walk4_len l f b (walk4M l f a out)
          have hm2 : (walk4M l f b (walk4M l f a out)).length + 1 ≤ maxElems := by unfold maxElems; omega
          have hc : cleanEs (iW (walk4M l f b (walk4M l f a out)) ++ [[vI at_]]) = true := by simpa using clean_iW (walk4M l f b (walk4M l f a out) ++ [(at_ : Int)])
          simp (maxSteps := 1000000) +contextual -dsimp [Tryz.f146, f_l3Two, hl, hm2, c1, c2, c3, ha, hb, ga, gb, hc]
    · have hc := clean_iW out
      simp (maxSteps := 1000000) +contextual -dsimp [Tryz.f146, c1, hc]
end Go.TM.Lr

namespace Go.TM.Lr
open Go Go.TM Go.Proofs
set_option maxRecDepth 20000
attribute [local congr] gif_cg
attribute [local simp] footOf noClash clash upsets setsHit setHits layHits layMeets setsMeet evFeet


def l3NodeM (n : Node) (i : Int) : Int :=
  if notB (inR n.kind 1 10) = true then 1
  else if orB (orB (andB (leI n.kind 2) (orB (notB (eqI n.left 0)) (notB (eqI n.right 0)))) (andB (notB (leI n.kind 2)) (notB (eqI n.value 0)))) (andB (eqI n.kind 10) (notB (eqI n.right 0))) = true then 1
  else if orB (andB (eqI n.kind 1) (notB (inR n.value 0 9999))) (andB (eqI n.kind 2) (notB (inR n.value 0 3))) = true then 3
  else if orB (andB (notB (leI n.kind 2)) (notB (inR n.left 0 (i - 1)))) (andB (inR n.kind 3 9) (notB (inR n.right 0 (i - 1)))) = true then 3
  else 0

theorem f_l3Node (n : Node) (i : Int) (hi : 0 ≤ i) (hi2 : i < 1000000) : fo 145 [A (.ipt (nT n)), A (vI i)] = some (R (vI (l3NodeM n i))) := by
  have hw : IntKind.i64.wrap (i - 1) = i - 1 := by rw [wrapI] <;> omega
  refine orc_145 1 ?_
  simp (maxSteps := 1000000) +contextual -dsimp [Tryz.f145, f_l1In, f_l3Two, l3NodeM, hw]

end Go.TM.Lr

namespace Go.TM.Lr
open Go Go.TM Go.Proofs
set_option maxRecDepth 20000
attribute [local congr] gif_cg
attribute [local simp] footOf noClash clash upsets setsHit setHits layHits layMeets setsMeet evFeet

def nodeFaultM (n : Node) (i : Int) : Int :=
  if orB (eqI n.kind 1) (eqI n.kind 2) = true then
    first2 (if orB (notB (eqI n.left 0)) (notB (eqI n.right 0)) = true then 1 else 0) (if notB (inR n.value 0 (if eqI n.kind 2 = true then 3 else 9999)) = true then 3 else 0)
  else if eqI n.kind 10 = true then
    first2 (if orB (notB (eqI n.value 0)) (notB (eqI n.right 0)) = true then 1 else 0) (if notB (inR n.left 0 (i - 1)) = true then 3 else 0)
  else if inR n.kind 3 9 = true then
    first2 (if notB (eqI n.value 0) = true then 1 else 0) (if orB (notB (inR n.left 0 (i - 1))) (notB (inR n.right 0 (i - 1))) = true then 3 else 0)
  else 1

theorem f_nodeFault (n : Node) (i : Int) (hi : 0 ≤ i) (hi2 : i < 1000000) : fo 150 [A (.agg (nT n)), A (vI i)] = some (R (vI (nodeFaultM n i))) := by
  have hw : IntKind.i64.wrap (i - 1) = i - 1 := by rw [wrapI] <;> omega
  refine orc_150 1 ?_
  cases h2 : eqI n.kind 2
  · cases h1 : eqI n.kind 1
    · cases h2 : eqI n.kind 10
      · cases h3 : inR n.kind 3 9
        · simp (maxSteps := 1000000) +contextual -dsimp [Tryz.f150, f_isTwo, nodeFaultM, *]
        · simp (maxSteps := 1000000) +contextual -dsimp [Tryz.f150, f_inRange, f_codeIf, f_isTwo, f_first2, nodeFaultM, *]
      · simp (maxSteps := 1000000) +contextual -dsimp [Tryz.f150, f_inRange, f_codeIf, f_first2, nodeFaultM, *]
    · simp (maxSteps := 1000000) +contextual -dsimp [Tryz.f150, f_inRange, f_codeIf, f_first2, nodeFaultM, *]
  · simp (maxSteps := 1000000) +contextual -dsimp [Tryz.f150, f_inRange, f_codeIf, f_first2, nodeFaultM, *]
end Go.TM.Lr

namespace Go.TM.Lr
open Go Go.TM Go.Proofs
set_option maxRecDepth 20000
attribute [local congr] gif_cg

/-! ### the law's own measures -/
def szNodesM (l : List Node) (left : Int) : Int := if ltI (left - l.length) 0 = true then -1 else left - l.length
def szStepM (s : Step) (left : Int) : Int :=
  if ltI (left - s.name.size) 0 = true then -1
  else if ltI (szNodesM s.cond (left - s.name.size)) 0 = true then -1
  else if ltI (szNodesM s.expr (szNodesM s.cond (left - s.name.size))) 0 = true then -1
  else szNodesM s.expr (szNodesM s.cond (left - s.name.size))

theorem f_szNodeS (l : List Node) (left : Int) (h0 : 0 ≤ left) (h1 : left ≤ 1048576) (hl : l.length < 2 ^ 62) : fo 118 [A (nS 206 l), A (vI left)] = some (R (vI (szNodesM l left))) := by
  have hw : IntKind.i64.wrap (left - l.length) = left - l.length := by rw [wrapI] <;> omega
  refine orc_118 1 ?_
  simp +contextual -dsimp [Tryz.f118, szNodesM, hw]

structure Fits (s : Step) : Prop where
  name : s.name.size < 2 ^ 62
  cond : s.cond.length < 2 ^ 62
  expr : s.expr.length < 2 ^ 62

theorem szNodesM_le {l : List Node} {left : Int} (h : ltI (szNodesM l left) 0 = false) : 0 ≤ szNodesM l left ∧ szNodesM l left = left - l.length := by
  unfold szNodesM at *
  split at h
  · simp [ltI] at h
  · rename_i hc
    simp [ltI] at h hc
    rw [if_neg (by simp [ltI]; omega)]
    omega

theorem f_szStep (s : Step) (left : Int) (h0 : 0 ≤ left) (h1 : left ≤ 1048576) (hs : Fits s) : fo 96 [A (.agg (sT 206 s)), A (vI left)] = some (R (vI (szStepM s left))) := by
  have hw : IntKind.i64.wrap (left - s.name.size) = left - s.name.size := by have := hs.name; rw [wrapI] <;> omega
  refine orc_96 1 ?_
  cases c1 : ltI (left - s.name.size) 0
  · have d1 : 0 ≤ left - s.name.size := by simp [ltI] at c1; omega
    have g1 := f_szNodeS s.cond (left - s.name.size) d1 (by omega) hs.cond
    cases c2 : ltI (szNodesM s.cond (left - s.name.size)) 0
    · obtain ⟨d2, d3⟩ := szNodesM_le c2
      have g2 := f_szNodeS s.expr (szNodesM s.cond (left - s.name.size)) d2 (by omega) hs.expr
      simp (maxSteps := 1000000) +contextual -dsimp [Tryz.f96, szStepM, hw, c1, c2, g1, g2]
    · simp (maxSteps := 1000000) +contextual -dsimp [Tryz.f96, szStepM, hw, c1, c2, g1]
  · simp (maxSteps := 1000000) +contextual -dsimp [Tryz.f96, szStepM, hw, c1]
end Go.TM.Lr

namespace Go.TM.Lr
open Go Go.TM Go.Proofs
set_option maxRecDepth 20000
attribute [local congr] gif_cg

def szStepsM : List Step → Int → Int
  | [], left => left
  | s :: r, left => if ltI (szStepM s left) 0 = true then -1 else szStepsM r (szStepM s left)

theorem szStepM_le {s : Step} {left : Int} (h : ltI (szStepM s left) 0 = false) : 0 ≤ szStepM s left ∧ szStepM s left = left - s.name.size - s.cond.length - s.expr.length := by
  unfold szStepM at *
  split at h
  · simp [ltI] at h
  · rename_i c1
    split at h
    · simp [ltI] at h
    · rename_i c2
      split at h
      · simp [ltI] at h
      · rename_i c3
        rw [if_neg c1, if_neg c2, if_neg c3]
        obtain ⟨d1, d2⟩ := szNodesM_le (by simpa using c2)
        obtain ⟨d3, d4⟩ := szNodesM_le (by simpa using c3)
        omega

theorem loop4 (all : List Step) (hall : all.length ≤ 1048576) (hf : ∀ s, s ∈ all → Fits s) : ∀ (rest : List Step) (i : Nat) (left : Int), all.drop i = rest → 0 ≤ left → left ≤ 1048576 →
    evLoop E (orc E) (80 : Nat) (rest.length + 1) (loopOf Tryz.f80 0) ⟨27, [(0, .sl 162 (all.map (sT 206))), (1, vI left), (5, vI i)], [], 2⟩ =
    (if ltI (szStepsM rest left) 0 = true then some (.ret, ⟨27, [(4, vI (-1))], [], 2⟩) else some (.exit 0, ⟨27, [(0, .sl 162 (all.map (sT 206))), (1, vI (szStepsM rest left)), (5, vI (i + rest.length : Nat)), (15, vB false)], [], 2⟩))
  | [], i, left, h, h0, h1 => by
    have hi : ¬ i < all.length := by have : all.length ≤ i := by simpa using h
                                     omega
    have hlt : ltI (i : Int) (all.length : Int) = false := ltI_f (by omega)
    have hpos : ltI left 0 = false := ltI_f (by omega)
    rw [show szStepsM [] left = left from rfl, hpos]
    rw [loop_eq]
    simp +contextual -dsimp [Tryz.f80, hlt]
  | s :: rest, i, left, h, h0, h1 => by
    obtain ⟨hi, hc, hr⟩ := drop_cons h
    have hlt : ltI (i : Int) (all.length : Int) = true := ltI_t (by omega)
    have hw : IntKind.i64.wrap ((i : Int) + 1) = ((i + 1 : Nat) : Int) := by rw [wrapI] <;> omega
    have g := f_szStep s left h0 h1 (hf s (by rw [← hc]; exact List.getElem_mem hi))
    cases c1 : ltI (szStepM s left) 0
    · obtain ⟨d1, d2⟩ := szStepM_le c1
      have ih := loop4 all hall hf rest (i + 1) (szStepM s left) hr d1 (by omega)
      have he : i + 1 + rest.length = i + (rest.length + 1) := by omega
      rw [he] at ih
      refine evLoop_next ?_ (by simpa only [szStepsM, c1, Bool.false_eq_true, if_false, List.length_cons] using ih)
      simp +contextual -dsimp [Tryz.f80, hlt, hi, hc, hw, g, c1]
    · have hm : szStepsM (s :: rest) left = -1 := by simp [szStepsM, c1]
      rw [hm, if_pos (by rfl)]
      refine evLoop_out ?_ (by simp)
      simp +contextual -dsimp [Tryz.f80, hlt, hi, hc, g, c1]

def szAllM (l : List Step) (left : Int) : Int := if ltI (left - l.length) 0 = true then -1 else if ltI (szStepsM l (left - l.length)) 0 = true then -1 else szStepsM l (left - l.length)

theorem f_szStepS (l : List Step) (hl : l.length < 2 ^ 62) (hf : ∀ s, s ∈ l → Fits s) : fo 80 [A (.sl 162 (l.map (sT 206))), A (vI 1048576)] = some (R (vI (szAllM l 1048576))) := by
  have hw : IntKind.i64.wrap (1048576 - l.length) = 1048576 - l.length := by rw [wrapI] <;> omega
  refine orc_80 (l.length + 1) ?_
  cases c1 : ltI (1048576 - l.length) 0
  · have hl2 : l.length ≤ 1048576 := by simp [ltI] at c1; omega
    have hlp := loop4 l hl2 hf l 0 (1048576 - l.length) rfl (by omega) (by omega)
    simp -dsimp [Tryz.f80] at hlp
    cases c2 : ltI (szStepsM l (1048576 - l.length)) 0
    · simp +contextual -dsimp [Tryz.f80, hw, c1, c2, hlp, szAllM]
    · simp +contextual -dsimp [Tryz.f80, hw, c1, c2, hlp, szAllM]
  · simp +contextual -dsimp [Tryz.f80, hw, c1, szAllM]
end Go.TM.Lr

namespace Go.TM.Lr
open Go Go.TM Go.Proofs
set_option maxRecDepth 20000
attribute [local congr] gif_cg

abbrev zN : List T := [vI 0, vI 0, vI 0, vI 0]

theorem f_toNode (n : Node) : fo 148 [A (.agg (nT n))] = some (R (.agg (nT n))) := by
  refine orc_148 1 ?_
  simp (maxSteps := 1000000) +contextual -dsimp [Tryz.f148, List.set]

theorem loop18 (all : List Node) (hall : all.length ≤ 1048576) : ∀ (rest : List Node) (i : Nat) (es : List (List T)), all.drop i = rest → es.length = all.length → (∀ j, i ≤ j → j < all.length → es[j]? = some zN) →
    evLoop E (orc E) (128 : Nat) (rest.length + 1) (loopOf Tryz.f128 0) ⟨23, [(0, nS 206 all), (3, .ref 3 1 [] 0 all.length), (4, vI i)], [(3, ⟨1, 1, false, [.own 201 es]⟩)], 2⟩ =
    some (.exit 0, ⟨23, [(0, nS 206 all), (3, .ref 3 1 [] 0 all.length), (4, vI (i + rest.length : Nat)), (11, vB false)], [(3, ⟨1, 1, false, [.own 201 (es.take i ++ rest.map nT)]⟩)], 2⟩)
  | [], i, es, h, hl, hz => by
    have hge : all.length ≤ i := by simpa using h
    have hlt : ltI (i : Int) (all.length : Int) = false := ltI_f (by omega)
    have ht : es.take i = es := List.take_of_length_le (by omega)
    rw [loop_eq]
    simp +contextual -dsimp [Tryz.f128, hlt, ht]
  | n :: rest, i, es, h, hl, hz => by
    obtain ⟨hi, hc, hr⟩ := drop_cons h
    have hlt : ltI (i : Int) (all.length : Int) = true := ltI_t (by omega)
    have hw : IntKind.i64.wrap ((i : Int) + 1) = ((i + 1 : Nat) : Int) := by rw [wrapI] <;> omega
    have hi2 : i < es.length := by omega
    have hz1 : es[i] = zN := by
      have := hz i (Nat.le_refl _) hi
      rw [List.getElem?_eq_getElem hi2] at this
      simpa using this
    have ih := loop18 all hall rest (i + 1) (es.set i (nT n)) hr (by simpa using hl) (fun j hj hj2 => by
      rw [List.getElem?_set_ne (by omega)]
      exact hz j (by omega) hj2)
    have he : i + 1 + rest.length = i + (rest.length + 1) := by omega
    have hes : (es.set i (nT n)).take (i + 1) = es.take i ++ [nT n] := by
      rw [List.take_add_one, List.take_set_of_le (Nat.le_refl _)]
      simp [hi2]
    rw [he, hes, List.append_assoc] at ih
    refine evLoop_next ?_ (by simpa only [List.length_cons, List.map_cons, List.singleton_append] using ih)
    simp (maxSteps := 1000000) +contextual -dsimp [Tryz.f128, hlt, hi, hc, hw, hz1, hl, f_toNode, List.set]
end Go.TM.Lr

namespace Go.TM.Lr
open Go Go.TM Go.Proofs
set_option maxRecDepth 20000
attribute [local congr] gif_cg

theorem f_toNodeS (l : List Node) (hl : l.length ≤ 1048576) : fo 128 [A (nS 206 l)] = some ⟨.own 201 (l.map nT), [], true⟩ := by
  have hm : (l.length : Int) ≤ (maxElems : Nat) := by unfold maxElems; omega
  have hlp := loop18 l hl l 0 (List.replicate l.length zN) rfl (by simp) (fun j _ hj => by simp [hj])
  have hc : cleanEs (l.map nT) = true := by
    have : ∀ (l : List Node), cleanEs (l.map nT) = true := fun l => by induction l <;> simp_all [cleanEs, cleanL, clean]
    exact this l
  refine orc_128 (l.length + 1) ?_
  simp -dsimp [Tryz.f128] at hlp
  simp (maxSteps := 1000000) +contextual -dsimp [Tryz.f128, hm, hlp, hc]

theorem sealEs_nodes (l : List Node) : sealEs (l.map nT) = l.map nT := sealEs_map (f := nT) (g := nT) (fun a => by simp [sealL, seal_]) l

theorem f_toStep (s : Step) (h1 : s.cond.length ≤ 1048576) (h2 : s.expr.length ≤ 1048576) : fo 102 [A (.agg (sT 206 s))] = some ⟨.agg (sT 201 s), [], false⟩ := by
  have g1 := f_toNodeS s.cond h1
  have g2 := f_toNodeS s.expr h2
  refine orc_102 1 ?_
  simp (maxSteps := 1000000) +contextual -dsimp [Tryz.f102, g1, g2, sealEs_nodes, List.set]
end Go.TM.Lr

namespace Go.TM.Lr
open Go Go.TM Go.Proofs
set_option maxRecDepth 20000
attribute [local congr] gif_cg

abbrev zS : List T := [vI 0, vI 0, vS emp, vI 0, .own 201 [], .own 201 []]

theorem loop6 (all : List Step) (hall : all.length ≤ 1048576) (hf : ∀ s, s ∈ all → s.cond.length ≤ 1048576 ∧ s.expr.length ≤ 1048576) : ∀ (rest : List Step) (i : Nat) (es : List (List T)), all.drop i = rest → es.length = all.length → (∀ j, i ≤ j → j < all.length → es[j]? = some zS) →
    evLoop E (orc E) (85 : Nat) (rest.length + 1) (loopOf Tryz.f85 0) ⟨23, [(0, .sl 162 (all.map (sT 206))), (3, .ref 3 1 [] 0 all.length), (4, vI i)], [(3, ⟨1, 1, false, [.own 99 es]⟩)], 2⟩ =
    some (.exit 0, ⟨23, [(0, .sl 162 (all.map (sT 206))), (3, .ref 3 1 [] 0 all.length), (4, vI (i + rest.length : Nat)), (11, vB false)], [(3, ⟨1, 1, false, [.own 99 (es.take i ++ rest.map (sT 201))]⟩)], 2⟩)
  | [], i, es, h, hl, hz => by
    have hge : all.length ≤ i := by simpa using h
    have hlt : ltI (i : Int) (all.length : Int) = false := ltI_f (by omega)
    have ht : es.take i = es := List.take_of_length_le (by omega)
    rw [loop_eq]
    simp +contextual -dsimp [Tryz.f85, hlt, ht]
  | n :: rest, i, es, h, hl, hz => by
    obtain ⟨hi, hc, hr⟩ := drop_cons h
    have hlt : ltI (i : Int) (all.length : Int) = true := ltI_t (by omega)
    have hw : IntKind.i64.wrap ((i : Int) + 1) = ((i + 1 : Nat) : Int) := by rw [wrapI] <;> omega
    have hi2 : i < es.length := by omega
    have hz1 : es[i] = zS := by
      have := hz i (Nat.le_refl _) hi
      rw [List.getElem?_eq_getElem hi2] at this
      simpa using this
    have ih := loop6 all hall hf rest (i + 1) (es.set i (sT 201 n)) hr (by simpa using hl) (fun j hj hj2 => by
      rw [List.getElem?_set_ne (by omega)]
      exact hz j (by omega) hj2)
    have he : i + 1 + rest.length = i + (rest.length + 1) := by omega
    have hes : (es.set i (sT 201 n)).take (i + 1) = es.take i ++ [sT 201 n] := by
      rw [List.take_add_one, List.take_set_of_le (Nat.le_refl _)]
      simp [hi2]
    rw [he, hes, List.append_assoc] at ih
    have g := f_toStep n (hf n (by rw [← hc]; exact List.getElem_mem hi)).1 (hf n (by rw [← hc]; exact List.getElem_mem hi)).2
    refine evLoop_next ?_ (by simpa only [List.length_cons, List.map_cons, List.singleton_append] using ih)
    simp (maxSteps := 1000000) +contextual -dsimp [Tryz.f85, hlt, hi, hc, hw, hz1, hl, g, List.set]

theorem f_toStepS (l : List Step) (hl : l.length ≤ 1048576) (hf : ∀ s, s ∈ l → s.cond.length ≤ 1048576 ∧ s.expr.length ≤ 1048576) : ∃ b, fo 85 [A (.sl 162 (l.map (sT 206)))] = some ⟨.own 99 (l.map (sT 201)), [], b⟩ := by
  have hm : (l.length : Int) ≤ (maxElems : Nat) := by unfold maxElems; omega
  have hlp := loop6 l hl hf l 0 (List.replicate l.length zS) rfl (by simp) (fun j _ hj => by simp [hj])
  refine ⟨cleanEs (l.map (sT 201)), orc_85 (l.length + 1) ?_⟩
  simp -dsimp [Tryz.f85] at hlp
  simp (maxSteps := 1000000) +contextual -dsimp [Tryz.f85, hm, hlp]

theorem sealEs_steps (l : List Step) : sealEs (l.map (sT 201)) = l.map (sT 201) := sealEs_map (f := sT 201) (g := sT 201) (fun a => by simp [sealL, seal_]) l

/-! ### equal things are equal -/
theorem eqI_self (a : Int) : eqI a a = true := by simp [eqI]

theorem f_eqNode (n : Node) : fo 153 [A (.agg (nT n)), A (.agg (nT n))] = some (R (vB true)) := by
  refine orc_153 1 ?_
  simp (maxSteps := 1000000) +contextual -dsimp [Tryz.f153, eqI_self]

theorem f_eqIntResult (a b : Int) : fo 13 [A (.agg [vI a, vI b]), A (.agg [vI a, vI b])] = some (R (vB true)) := by
  refine orc_13 1 ?_
  simp (maxSteps := 1000000) +contextual -dsimp [Tryz.f13, eqI_self]

theorem loop21 (all : List Node) (hall : all.length ≤ 1048576) : ∀ (rest : List Node) (i : Nat), all.drop i = rest →
    evLoop E (orc E) (140 : Nat) (rest.length + 1) (loopOf Tryz.f140 0) ⟨27, [(0, nS 201 all), (1, nS 201 all), (5, vI i)], [], 2⟩ =
    some (.exit 0, ⟨27, [(0, nS 201 all), (1, nS 201 all), (5, vI (i + rest.length : Nat)), (14, vB false)], [], 2⟩)
  | [], i, h => by
    have hge : all.length ≤ i := by simpa using h
    have hlt : ltI (i : Int) (all.length : Int) = false := ltI_f (by omega)
    rw [loop_eq]
    simp +contextual -dsimp [Tryz.f140, hlt]
  | n :: rest, i, h => by
    obtain ⟨hi, hc, hr⟩ := drop_cons h
    have hlt : ltI (i : Int) (all.length : Int) = true := ltI_t (by omega)
    have hw : IntKind.i64.wrap ((i : Int) + 1) = ((i + 1 : Nat) : Int) := by rw [wrapI] <;> omega
    have ih := loop21 all hall rest (i + 1) hr
    have he : i + 1 + rest.length = i + (rest.length + 1) := by omega
    rw [he] at ih
    refine evLoop_next ?_ (by simpa only [List.length_cons] using ih)
    simp (maxSteps := 1000000) +contextual -dsimp [Tryz.f140, hlt, hi, hc, hw, f_eqNode]

theorem f_eqNodeS (l : List Node) (hl : l.length ≤ 1048576) : fo 140 [A (nS 201 l), A (nS 201 l)] = some (R (vB true)) := by
  have hlp := loop21 l hl l 0 rfl
  refine orc_140 (l.length + 1) ?_
  simp -dsimp [Tryz.f140] at hlp
  simp (maxSteps := 1000000) +contextual -dsimp [Tryz.f140, hlp, eqI_self]
end Go.TM.Lr

namespace Go.TM.Lr
open Go Go.TM Go.Proofs
set_option maxRecDepth 20000
attribute [local congr] gif_cg

theorem f_eqStep (s : Step) (h1 : s.cond.length ≤ 1048576) (h2 : s.expr.length ≤ 1048576) : fo 111 [A (.agg (sT 201 s)), A (.agg (sT 201 s))] = some (R (vB true)) := by
  have g1 := f_eqNodeS s.cond h1
  have g2 := f_eqNodeS s.expr h2
  refine orc_111 1 ?_
  simp (maxSteps := 1000000) +contextual -dsimp [Tryz.f111, eqI_self, eqS_self, g1, g2]

theorem loop9 (all : List Step) (hall : all.length ≤ 1048576) (hf : ∀ s, s ∈ all → s.cond.length ≤ 1048576 ∧ s.expr.length ≤ 1048576) : ∀ (rest : List Step) (i : Nat), all.drop i = rest →
    evLoop E (orc E) (92 : Nat) (rest.length + 1) (loopOf Tryz.f92 0) ⟨27, [(0, .sl 99 (all.map (sT 201))), (1, .sl 99 (all.map (sT 201))), (5, vI i)], [], 2⟩ =
    some (.exit 0, ⟨27, [(0, .sl 99 (all.map (sT 201))), (1, .sl 99 (all.map (sT 201))), (5, vI (i + rest.length : Nat)), (14, vB false)], [], 2⟩)
  | [], i, h => by
    have hge : all.length ≤ i := by simpa using h
    have hlt : ltI (i : Int) (all.length : Int) = false := ltI_f (by omega)
    rw [loop_eq]
    simp +contextual -dsimp [Tryz.f92, hlt]
  | n :: rest, i, h => by
    obtain ⟨hi, hc, hr⟩ := drop_cons h
    have hlt : ltI (i : Int) (all.length : Int) = true := ltI_t (by omega)
    have hw : IntKind.i64.wrap ((i : Int) + 1) = ((i + 1 : Nat) : Int) := by rw [wrapI] <;> omega
    have ih := loop9 all hall hf rest (i + 1) hr
    have he : i + 1 + rest.length = i + (rest.length + 1) := by omega
    rw [he] at ih
    have g := f_eqStep n (hf n (by rw [← hc]; exact List.getElem_mem hi)).1 (hf n (by rw [← hc]; exact List.getElem_mem hi)).2
    refine evLoop_next ?_ (by simpa only [List.length_cons] using ih)
    simp (maxSteps := 1000000) +contextual -dsimp [Tryz.f92, hlt, hi, hc, hw, g]

theorem f_eqStepS (l : List Step) (hl : l.length ≤ 1048576) (hf : ∀ s, s ∈ l → s.cond.length ≤ 1048576 ∧ s.expr.length ≤ 1048576) : fo 92 [A (.sl 99 (l.map (sT 201))), A (.sl 99 (l.map (sT 201)))] = some (R (vB true)) := by
  have hlp := loop9 l hl hf l 0 rfl
  refine orc_92 (l.length + 1) ?_
  simp -dsimp [Tryz.f92] at hlp
  simp (maxSteps := 1000000) +contextual -dsimp [Tryz.f92, hlp, eqI_self]

/-! ### names -/
def smalls (bs : List UInt8) : Bool := bs.all fun b => inR b.toNat 97 122

theorem size_list (s : ByteArray) : s.data.toList.length = s.size := rfl

theorem byte_at {s : ByteArray} {i : Nat} {b : UInt8} {rest : List UInt8} (h : s.data.toList.drop i = b :: rest) : i < s.size ∧ s[i]? = some b ∧ s.data.toList.drop (i + 1) = rest := by
  obtain ⟨h1, h2, h3⟩ := drop_cons h
  have h4 : i < s.size := by rw [← size_list]; exact h1
  refine ⟨h4, ?_, h3⟩
  rw [getElem?_pos s i h4]
  simp only [ByteArray.getElem_eq_getElem_data]
  simpa using h2

theorem loop56 (s : ByteArray) (hs : s.size < 2 ^ 62) : ∀ (rest : List UInt8) (i : Nat), s.data.toList.drop i = rest →
    evLoop E (orc E) (142 : Nat) (rest.length + 1) (loopOf Tryz.f142 0) ⟨18, [(0, vS s), (1, .v (.func (.func (149 : Nat)) #[] #[])), (7, vI s.size), (8, vI i)], [], 2⟩ =
    (if smalls rest = true then some (.exit 0, ⟨18, [(0, vS s), (1, .v (.func (.func (149 : Nat)) #[] #[])), (7, vI s.size), (8, vI (i + rest.length : Nat)), (9, vB false)], [], 2⟩) else some (.ret, ⟨18, [(4, vB false)], [], 2⟩))
  | [], i, h => by
    have hge : s.size ≤ i := by rw [← size_list]; exact List.drop_eq_nil_iff.1 h
    have hlt : ltI (i : Int) (s.size : Int) = false := ltI_f (by omega)
    rw [loop_eq]
    simp +contextual -dsimp [Tryz.f142, hlt, smalls]
  | b :: rest, i, h => by
    obtain ⟨hi, hb, hr⟩ := byte_at h
    have hlt : ltI (i : Int) (s.size : Int) = true := ltI_t (by omega)
    have hw : IntKind.i64.wrap ((i : Int) + 1) = ((i + 1 : Nat) : Int) := by rw [wrapI] <;> omega
    have hx := pr_idx s i b (by omega) (by simpa using hb)
    have g := f_isSmall b.toNat
    cases c : inR b.toNat 97 122
    · have hm : smalls (b :: rest) = false := by simp [smalls, c]
      rw [hm, if_neg (by simp)]
      refine evLoop_out ?_ (by simp)
      simp (maxSteps := 1000000) +contextual -dsimp [Tryz.f142, hlt, hx, g, c]
    · have hm : smalls (b :: rest) = smalls rest := by simp [smalls, c]
      have ih := loop56 s hs rest (i + 1) hr
      have he : i + 1 + rest.length = i + (rest.length + 1) := by omega
      rw [he] at ih
      rw [hm]
      refine evLoop_next ?_ (by simpa only [List.length_cons] using ih)
      simp (maxSteps := 1000000) +contextual -dsimp [Tryz.f142, hlt, hx, hw, g, c]

theorem f_areAllSmall (s : ByteArray) (hs : s.size < 2 ^ 62) : fo 142 [A (vS s), A (.v (.func (.func (149 : Nat)) #[] #[]))] = some (R (vB (smalls s.data.toList))) := by
  have hlp := loop56 s hs s.data.toList 0 rfl
  refine orc_142 (s.data.toList.length + 1) ?_
  simp -dsimp [Tryz.f142] at hlp
  cases c : smalls s.data.toList
  · simp (maxSteps := 1000000) +contextual -dsimp [Tryz.f142, hlp, c]
  · simp (maxSteps := 1000000) +contextual -dsimp [Tryz.f142, hlp, c]

def nameM (s : ByteArray) : Int := first2 (if orB (eqS s emp) (notB (smalls s.data.toList)) = true then 5 else 0) (if ltI 8 s.size = true then 2 else 0)

theorem f_NameFault (s : ByteArray) (hs : s.size < 2 ^ 62) : fo 132 [A (vS s)] = some (R (vI (nameM s))) := by
  have g := f_areAllSmall s hs
  refine orc_132 1 ?_
  simp (maxSteps := 1000000) +contextual -dsimp [Tryz.f132, g, f_codeIf, f_first2, nameM]
end Go.TM.Lr

namespace Go.TM.Lr
open Go Go.TM Go.Proofs
set_option maxRecDepth 20000
attribute [local congr] gif_cg
attribute [local simp] footOf noClash clash upsets setsHit setHits layHits layMeets setsMeet evFeet

abbrev iE (l : List Int) : List (List T) := l.map fun n => [vI n]
abbrev pR (v h : Nat) (list deep : List Int) : Root := ⟨v, h, true, [.own 2 (iE list), .own 2 (iE deep)]⟩

def climbM (list : List Int) (parent : Int) : Nat → Int → Int
  | 0, up => up
  | f + 1, up => if ltI parent up = true then climbM list parent f (list.getD up.toNat (-1)) else up

def Tree (list : List Int) : Prop := ∀ (k : Nat) (h : k < list.length), -1 ≤ list[k] ∧ list[k] < k

theorem loop45 (list deep : List Int) (parent : Int) (hp : -1 ≤ parent) (ht : Tree list) (hl : list.length ≤ 1000) : ∀ (f : Nat) (up : Int), up < f → up < list.length →
    evLoop E (orc E) (130 : Nat) (f + 1) (loopOf Tryz.f130 0) ⟨75, [(0, .ptr 0 0 [] 0), (1, vI parent), (6, vI up)], [(0, pR 0 1 list deep)], 2⟩ =
    some (.exit 0, ⟨75, [(0, .ptr 0 0 [] 0), (1, vI parent), (6, vI (climbM list parent f up)), (34, vB false)], [(0, pR 0 1 list deep)], 2⟩)
  | 0, up, h, h2 => by
    have hlt : ltI parent up = false := ltI_f (by omega)
    rw [loop_eq]
    simp +contextual -dsimp [Tryz.f130, hlt, climbM]
  | f + 1, up, h, h2 => by
    cases hlt : ltI parent up
    · rw [loop_eq]
      simp +contextual -dsimp [Tryz.f130, hlt, climbM]
    · have hlt' : parent < up := by simpa [ltI] using hlt
      obtain ⟨k, rfl⟩ := Int.eq_ofNat_of_zero_le (show 0 ≤ up by omega)
      have hk : k < list.length := by omega
      obtain ⟨t1, t2⟩ := ht k hk
      have ih := loop45 list deep parent hp ht hl f list[k] (by omega) (by omega)
      have hm : climbM list parent (f + 1) k = climbM list parent f list[k] := by
        simp [climbM, hlt, hk]
      rw [hm]
      refine evLoop_next ?_ ih
      simp (maxSteps := 1000000) +contextual -dsimp [Tryz.f130, hlt, hk]

def nextBad (list : List Int) (parent : Int) : Bool := orB (andB (eqI list.length 0) (notB (eqI parent (-1)))) (andB (ltI 0 list.length) (notB (inR parent 0 (list.length - 1))))
def nextDeep (deep : List Int) (parent : Int) : Int := if leI 0 parent = true then deep.getD parent.toNat 0 + 1 else 1

/-- next: the code; where it is 0 the lists have grown. -/
def nextM (list deep : List Int) (parent : Int) : Int × List Int × List Int :=
  if nextBad list parent = true then (3, list, deep)
  else if notB (eqI (climbM list parent list.length (list.length - 1)) parent) = true then (1, list, deep)
  else (0, list ++ [parent], deep ++ [nextDeep deep parent])
end Go.TM.Lr

namespace Go.TM.Lr
open Go Go.TM Go.Proofs
set_option maxRecDepth 20000
attribute [local congr] gif_cg
attribute [local simp] footOf noClash clash upsets setsHit setHits layHits layMeets setsMeet evFeet

abbrev argP (list deep : List Int) : Arg := ⟨.ptr 0 0 [] 0, some (pR 0 0 list deep)⟩
abbrev outP (list deep : List Int) : List (Nat × List T) := [(0, [.own 2 (iE list), .own 2 (iE deep)])]

theorem f_next (list deep : List Int) (parent : Int) (hp1 : -9223372036854775808 ≤ parent) (hp2 : parent < 9223372036854775808) (ht : Tree list) (hl : list.length ≤ 1000) (hd : deep.length = list.length)
    (hv : ∀ d, d ∈ deep → 0 ≤ d ∧ d ≤ 1000000) :
    fo 130 [argP list deep, A (vI parent)] = some ⟨vI (nextM list deep parent).1, outP (nextM list deep parent).2.1 (nextM list deep parent).2.2, true⟩ := by
  have hw : IntKind.i64.wrap ((list.length : Int) - 1) = (list.length : Int) - 1 := by rw [wrapI] <;> omega
  have hm1 : list.length + 1 ≤ maxElems := by unfold maxElems; omega
  have hm2 : deep.length + 1 ≤ maxElems := by unfold maxElems; omega
  refine orc_130 (list.length + 1) ?_
  cases c1 : nextBad list parent
  · have hpr : -1 ≤ parent ∧ parent < list.length ∧ ¬ (parent = -1 ∧ 0 < list.length) := by
      simp only [nextBad, orB, andB, notB, eqI, ltI, inR, leI, Bool.or_eq_false_iff, Bool.and_eq_false_iff, Bool.not_eq_false', beq_eq_false_iff_ne, beq_iff_eq, decide_eq_false_iff_not, decide_eq_true_eq, Bool.and_eq_true] at c1
      omega
    obtain ⟨p1, p2, p3⟩ := hpr
    have hlp := loop45 list deep parent p1 ht hl list.length ((list.length : Int) - 1) (by omega) (by omega)
    simp -dsimp [Tryz.f130] at hlp
    cases c2 : eqI (climbM list parent list.length (list.length - 1)) parent
    · simp only [nextBad] at c1
      simp (maxSteps := 1000000) +contextual -dsimp [Tryz.f130, f_inRange, hw, hlp, c1, c2, nextM, nextBad]
    · cases c3 : leI 0 parent
      · simp only [nextBad] at c1
        simp (maxSteps := 1000000) +contextual -dsimp [Tryz.f130, f_inRange, hw, hlp, c1, c2, c3, hm1, hm2, nextM, nextBad, nextDeep]
      · simp only [nextBad] at c1
        have h0 : 0 ≤ parent := by simpa [leI] using c3
        obtain ⟨k, rfl⟩ := Int.eq_ofNat_of_zero_le h0
        have hk : k < deep.length := by omega
        have hb := hv deep[k] (List.getElem_mem hk)
        have hw2 : IntKind.i64.wrap (deep[k] + 1) = deep[k] + 1 := by rw [wrapI] <;> omega
        simp (maxSteps := 1000000) +contextual -dsimp [Tryz.f130, f_inRange, hw, hlp, c1, c2, c3, hm1, hm2, hk, hw2, nextM, nextBad, nextDeep]
  · simp only [nextBad] at c1
    simp (maxSteps := 1000000) +contextual -dsimp [Tryz.f130, f_inRange, hw, c1, nextM, nextBad]
end Go.TM.Lr

namespace Go.TM.Lr
open Go Go.TM Go.Proofs
set_option maxRecDepth 20000
attribute [local congr] gif_cg
attribute [local simp] footOf noClash clash upsets setsHit setHits layHits layMeets setsMeet evFeet

theorem f_last (list deep : List Int) (d : Int) (hd : deep.length ≤ 1000000) : fo 131 [argP list (deep ++ [d])] = some ⟨vI d, outP list (deep ++ [d]), true⟩ := by
  have hw : IntKind.i64.wrap (deep.length : Int) = (deep.length : Int) := by rw [wrapI] <;> omega
  have hlt : (deep.length : Int) < (deep.length : Int) + 1 := by omega
  refine orc_131 1 ?_
  simp (maxSteps := 1000000) +contextual -dsimp [Tryz.f131, hw, hlt]

/-! ### kids -/
def kidsM (at_ : Int) : Nat → List Step → List Int
  | _, [] => []
  | i, s :: r => if andB (ltI 0 (i : Int)) (eqI s.parent at_) = true then (i : Int) :: kidsM at_ (i + 1) r else kidsM at_ (i + 1) r

theorem loop50 (all : List Step) (hall : all.length ≤ 1000) (at_ : Int) : ∀ (rest : List Step) (i : Nat) (acc : List Int), all.drop i = rest → acc.length ≤ i →
    evLoop E (orc E) (135 : Nat) (rest.length + 1) (loopOf Tryz.f135 0) ⟨30, [(1, vI at_), (5, .ref 5 1 [] 0 acc.length), (9, .sl 99 (all.map (sT 201))), (10, vI all.length), (11, vI i)], [(5, ⟨1, 1, false, [.own 2 (iE acc)]⟩)], 2⟩ =
    some (.exit 0, ⟨30, [(1, vI at_), (5, .ref 5 1 [] 0 (acc ++ kidsM at_ i rest).length), (9, .sl 99 (all.map (sT 201))), (10, vI all.length), (11, vI (i + rest.length : Nat)), (12, vB false)], [(5, ⟨1, 1, false, [.own 2 (iE (acc ++ kidsM at_ i rest))]⟩)], 2⟩)
  | [], i, acc, h, ha => by
    have hge : all.length ≤ i := by simpa using h
    have hlt : ltI (i : Int) (all.length : Int) = false := ltI_f (by omega)
    rw [loop_eq]
    simp +contextual -dsimp [Tryz.f135, hlt, kidsM]
  | s :: rest, i, acc, h, ha => by
    obtain ⟨hi, hc, hr⟩ := drop_cons h
    have hlt : ltI (i : Int) (all.length : Int) = true := ltI_t (by omega)
    have hw : IntKind.i64.wrap ((i : Int) + 1) = ((i + 1 : Nat) : Int) := by rw [wrapI] <;> omega
    have he : i + 1 + rest.length = i + (rest.length + 1) := by omega
    have hm1 : acc.length + 1 ≤ maxElems := by unfold maxElems; omega
    cases c : andB (ltI 0 (i : Int)) (eqI s.parent at_)
    · have ih := loop50 all hall at_ rest (i + 1) acc hr (by omega)
      rw [he] at ih
      have hm : kidsM at_ i (s :: rest) = kidsM at_ (i + 1) rest := by simp [kidsM, c]
      rw [hm]
      refine evLoop_next ?_ (by simpa only [List.length_cons] using ih)
      simp (maxSteps := 1000000) +contextual -dsimp [Tryz.f135, hlt, hi, hc, hw, c, List.set]
    · have ih := loop50 all hall at_ rest (i + 1) (acc ++ [(i : Int)]) hr (by simp; omega)
      rw [he] at ih
      have hm : acc ++ kidsM at_ i (s :: rest) = acc ++ [(i : Int)] ++ kidsM at_ (i + 1) rest := by simp [kidsM, c]
      rw [hm]
      refine evLoop_next ?_ (by simpa only [List.length_cons] using ih)
      simp (maxSteps := 1000000) +contextual -dsimp [Tryz.f135, hlt, hi, hc, hw, c, hm1, List.set]

theorem f_kids (l : List Step) (hl : l.length ≤ 1000) (at_ : Int) : fo 135 [A (.sl 99 (l.map (sT 201))), A (vI at_)] = some ⟨.own 2 (iE (kidsM at_ 0 l)), [], true⟩ := by
  have hlp := loop50 l hl at_ l 0 [] rfl (by simp)
  have hc : cleanEs (iE (kidsM at_ 0 l)) = true := by
    have : ∀ (l : List Int), cleanEs (iE l) = true := fun l => by induction l <;> simp_all [cleanEs, cleanL, clean]
    exact this _
  refine orc_135 (l.length + 1) ?_
  simp -dsimp [Tryz.f135] at hlp
  simp (maxSteps := 1000000) +contextual -dsimp [Tryz.f135, hlp, hc]
end Go.TM.Lr

namespace Go.TM.Lr
open Go Go.TM Go.Proofs
set_option maxRecDepth 20000
attribute [local congr] gif_cg
attribute [local simp] footOf noClash clash upsets setsHit setHits layHits layMeets setsMeet evFeet

def nodes4M : Nat → List Node → Int
  | _, [] => 0
  | i, n :: r => if notB (eqI (l3NodeM n i) 0) = true then l3NodeM n i else nodes4M (i + 1) r

theorem loop38a (all : List Node) (hall : all.length ≤ 16) : ∀ (rest : List Node) (i : Nat), all.drop i = rest →
    evLoop E (orc E) (124 : Nat) (rest.length + 1) (loopOf Tryz.f124 0) ⟨51, [(0, nS 201 all), (3, vI i)], [], 2⟩ =
    (if eqI (nodes4M i rest) 0 = true then some (.exit 0, ⟨51, [(0, nS 201 all), (3, vI (i + rest.length : Nat)), (18, vB false)], [], 2⟩) else some (.ret, ⟨51, [(2, vI (nodes4M i rest))], [], 2⟩))
  | [], i, h => by
    have hge : all.length ≤ i := by simpa using h
    have hlt : ltI (i : Int) (all.length : Int) = false := ltI_f (by omega)
    rw [loop_eq]
    simp +contextual -dsimp [Tryz.f124, hlt, nodes4M, eqI]
  | n :: rest, i, h => by
    obtain ⟨hi, hc, hr⟩ := drop_cons h
    have hlt : ltI (i : Int) (all.length : Int) = true := ltI_t (by omega)
    have hw : IntKind.i64.wrap ((i : Int) + 1) = ((i + 1 : Nat) : Int) := by rw [wrapI] <;> omega
    have he : i + 1 + rest.length = i + (rest.length + 1) := by omega
    have g := f_l3Node n i (by omega) (by omega)
    cases c : eqI (l3NodeM n i) 0
    · have hm : nodes4M i (n :: rest) = l3NodeM n i := by simp [nodes4M, c, notB]
      rw [hm, c, if_neg (by simp)]
      refine evLoop_out ?_ (by simp)
      simp (maxSteps := 1000000) +contextual -dsimp [Tryz.f124, hlt, hi, hc, g, c]
    · have ih := loop38a all hall rest (i + 1) hr
      rw [he] at ih
      have hm : nodes4M i (n :: rest) = nodes4M (i + 1) rest := by simp [nodes4M, c, notB]
      rw [hm]
      refine evLoop_next ?_ (by simpa only [List.length_cons] using ih)
      simp (maxSteps := 1000000) +contextual -dsimp [Tryz.f124, hlt, hi, hc, hw, g, c]

def inOrder : Nat → List Int → Bool
  | _, [] => true
  | i, x :: r => if eqI x i = true then inOrder (i + 1) r else false

theorem loop38b (l : List Node) (all : List Int) (hall : all.length ≤ 1000000) : ∀ (rest : List Int) (i : Nat), all.drop i = rest →
    evLoop E (orc E) (124 : Nat) (rest.length + 1) (loopOf Tryz.f124 1) ⟨51, [(5, .sl 2 (iW all)), (6, vI i)], [], 2⟩ =
    (if inOrder i rest = true then some (.exit 2, ⟨51, [(5, .sl 2 (iW all)), (6, vI (i + rest.length : Nat)), (42, vB false)], [], 2⟩) else some (.ret, ⟨51, [(2, vI 1)], [], 2⟩))
  | [], i, h => by
    have hge : all.length ≤ i := by simpa using h
    have hlt : ltI (i : Int) (all.length : Int) = false := ltI_f (by omega)
    rw [loop_eq]
    simp +contextual -dsimp [Tryz.f124, hlt, inOrder]
  | x :: rest, i, h => by
    obtain ⟨hi, hc, hr⟩ := drop_cons h
    have hlt : ltI (i : Int) (all.length : Int) = true := ltI_t (by omega)
    have hw : IntKind.i64.wrap ((i : Int) + 1) = ((i + 1 : Nat) : Int) := by rw [wrapI] <;> omega
    have he : i + 1 + rest.length = i + (rest.length + 1) := by omega
    cases c : eqI x i
    · have hm : inOrder i (x :: rest) = false := by simp [inOrder, c]
      rw [hm, if_neg (by simp)]
      refine evLoop_out ?_ (by simp)
      simp (maxSteps := 1000000) +contextual -dsimp [Tryz.f124, hlt, hi, hc, c]
    · have ih := loop38b l all hall rest (i + 1) hr
      rw [he] at ih
      have hm : inOrder i (x :: rest) = inOrder (i + 1) rest := by simp [inOrder, c]
      rw [hm]
      refine evLoop_next ?_ (by simpa only [List.length_cons] using ih)
      simp (maxSteps := 1000000) +contextual -dsimp [Tryz.f124, hlt, hi, hc, hw, c]
end Go.TM.Lr

namespace Go.TM.Lr
open Go Go.TM Go.Proofs
set_option maxRecDepth 20000
attribute [local congr] gif_cg
attribute [local simp] footOf noClash clash upsets setsHit setHits layHits layMeets setsMeet evFeet

theorem l3Node_ok {n : Node} {i : Nat} (h : l3NodeM n i = 0) : (ltI 2 n.kind = true → 0 ≤ n.left ∧ n.left < i) ∧ (inR n.kind 3 9 = true → 0 ≤ n.right ∧ n.right < i) := by
  unfold l3NodeM at h
  split at h
  · simp at h
  · split at h
    · simp at h
    · split at h
      · simp at h
      · split at h
        · simp at h
        · rename_i hc
          simp only [orB, andB, notB, inR, leI, Bool.or_eq_true, Bool.and_eq_true, Bool.not_eq_true', decide_eq_true_eq, decide_eq_false_iff_not, Bool.and_eq_false_iff, not_or, not_and] at hc
          refine ⟨fun h2 => ?_, fun h3 => ?_⟩
          · have g2 : 2 < n.kind := by simpa [ltI] using h2
            have := hc.1 (by omega)
            omega
          · have g3 : 3 ≤ n.kind ∧ n.kind ≤ 9 := by simpa [inR, andB, leI] using h3
            have := hc.2 g3
            omega

theorem nodes4_ok : ∀ {l : List Node} {i : Nat}, nodes4M i l = 0 → ∀ (k : Nat) (n : Node), l[k]? = some n → l3NodeM n (i + k : Nat) = 0
  | [], i, _, k, n, h => by simp at h
  | x :: l, i, hz, k, n, h => by
    unfold nodes4M at hz
    split at hz
    · rename_i hc
      rw [hz] at hc; simp [notB, eqI] at hc
    · rename_i hc
      have h0 : l3NodeM x i = 0 := by simpa [notB, eqI] using hc
      cases k with
      | zero => simp at h; subst h; exact h0
      | succ k =>
        have := nodes4_ok hz k n (by simpa using h)
        have e : i + 1 + k = i + (k + 1) := by omega
        rw [← e]; exact this

def orderM (l : List Node) : List Int := walk4M l l.length (l.length - 1) []
def expr4M (l : List Node) : Int :=
  if orB (ltI l.length 1) (ltI 16 l.length) = true then 2
  else if notB (eqI (nodes4M 0 l) 0) = true then nodes4M 0 l
  else if notB (eqI (orderM l).length l.length) = true then 1
  else if inOrder 0 (orderM l) = true then 0 else 1

theorem sealEs_iW (l : List Int) : sealEs (iW l) = iW l := sealEs_map (f := fun n => [vI n]) (g := fun n => [vI n]) (fun a => by simp [sealL, seal_]) _

set_option maxHeartbeats 1000000 in
theorem f_l3Fault (l : List Node) (hl : l.length < 2 ^ 62) : fo 124 [A (nS 201 l)] = some (R (vI (expr4M l))) := by
  cases c1 : orB (ltI l.length 1) (ltI 16 l.length)
  · have hl2 : 1 ≤ l.length ∧ l.length ≤ 16 := by simp [orB, ltI] at c1; omega
    have ha := loop38a l hl2.2 l 0 rfl
    simp -dsimp [Tryz.f124] at ha
    cases c2 : eqI (nodes4M 0 l) 0
    · rw [c2] at ha
      refine orc_124 (l.length + 1) ?_
      simp (maxSteps := 1000000) +contextual -dsimp [Tryz.f124, c1, c2, ha, expr4M]
    · rw [c2] at ha
      have h0 : nodes4M 0 l = 0 := by simpa [eqI] using c2
      have hg : Good l := fun k hk => by
        have hz := nodes4_ok h0 k l[k] (by simp [hk])
        rw [Nat.zero_add] at hz
        exact l3Node_ok hz
      have gw : fo 146 [A (nS 201 l), A (vI (l.length - 1 : Nat)), argW []] = some ⟨.own 2 (iW (orderM l)), [], true⟩ := by
        unfold orderM
        exact f_l3Walk l hg l.length (l.length - 1) [] (Nat.sub_lt hl2.1 Nat.one_pos) (Nat.sub_lt hl2.1 Nat.one_pos) hl2.2 (Nat.zero_le _)
      simp only [argW, iW, List.map_nil, List.length_nil] at gw
      have hs := sealEs_iW (orderM l)
      simp only [iW] at hs
      have hw : IntKind.i64.wrap ((l.length : Int) - 1) = ((l.length - 1 : Nat) : Int) := by rw [wrapI] <;> omega
      have hlo : (orderM l).length ≤ 1000000 := by
        have h1 := walk4_len l l.length (l.length - 1) []
        have h2 := Nat.pow_le_pow_right (n := 2) (by omega) hl2.2
        unfold orderM
        simp only [List.length_nil] at h1
        omega
      have hb := loop38b l (orderM l) hlo (orderM l) 0 rfl
      simp -dsimp [Tryz.f124, iW] at hb
      refine orc_124 (l.length + 1) ?_
      cases c3 : eqI (orderM l).length l.length
      · simp (maxSteps := 1000000) +contextual -dsimp [Tryz.f124, c1, c2, c3, ha, gw, hs, hw, expr4M]
      · have e3 : (orderM l).length = l.length := by simp [eqI] at c3; omega
        rw [e3] at hb
        cases c4 : inOrder 0 (orderM l)
        · rw [c4] at hb
          simp (maxSteps := 1000000) +contextual -dsimp [Tryz.f124, c1, c2, c3, c4, ha, hb, gw, hs, hw, expr4M]
        · rw [c4] at hb
          simp (maxSteps := 1000000) +contextual -dsimp [Tryz.f124, c1, c2, c3, c4, ha, hb, gw, hs, hw, expr4M]
  · refine orc_124 1 ?_
    simp (maxSteps := 1000000) +contextual -dsimp [Tryz.f124, c1, expr4M]
end Go.TM.Lr

namespace Go.TM.Lr
open Go Go.TM Go.Proofs
set_option maxRecDepth 20000
attribute [local congr] gif_cg
attribute [local simp] footOf noClash clash upsets setsHit setHits layHits layMeets setsMeet evFeet

def want4 (k : Int) : Int := if orB (eqI k 9) (eqI k 10) = true then 2 else 1
def is4 (k : Int) : Int := if leI 7 k = true then 2 else 1
def sAt (types : List Int) (k : Int) : Int := types.getD k.toNat 0
def bad4 (n : Node) (types : List Int) : Bool :=
  orB (andB (ltI 2 n.kind) (notB (eqI (sAt types n.left) (want4 n.kind)))) (andB (inR n.kind 3 9) (notB (eqI (sAt types n.right) (want4 n.kind))))
def types4M : List Node → List Int → Bool × List Int
  | [], acc => (true, acc)
  | n :: r, acc => if bad4 n acc = true then (false, acc) else types4M r (acc ++ [is4 n.kind])


set_option maxHeartbeats 4000000 in
theorem st55na (all : List Node) (i k : Nat) (n : Node) (acc : List Int) (hall : all.length ≤ 16) (hi : i < all.length) (hc : all[i] = n) (hs : acc.length = i)
   (cb : bad4 n acc = false) (c2 : ltI 2 n.kind = false) (c3 : inR n.kind 3 9 = false) :
    evCode E (orc E) (147 : Nat) (evLoop E (orc E) (147 : Nat) (k + 1)) (loopOf Tryz.f147 0) ⟨62, [(0, nS 201 all), (4, .ref 4 1 [] 0 acc.length), (5, vI i)], [(4, ⟨1, 1, false, [.own 2 (iW acc)]⟩)], 2⟩ =
    some (.normal, ⟨62, [(0, nS 201 all), (4, .ref 4 1 [] 0 (acc ++ [is4 n.kind]).length), (5, vI (i + 1 : Nat))], [(4, ⟨1, 1, false, [.own 2 (iW (acc ++ [is4 n.kind]))]⟩)], 2⟩) := by
    have _ := cb
    have hlt : ltI (i : Int) (all.length : Int) = true := ltI_t (by omega)
    have hw : IntKind.i64.wrap ((i : Int) + 1) = ((i + 1 : Nat) : Int) := by rw [wrapI] <;> omega
    have hm1 : acc.length + 1 ≤ maxElems := by unfold maxElems; omega
    unfold bad4 want4 at cb
    try unfold is4
    cases c9 : orB (eqI n.kind 9) (eqI n.kind 10) <;> cases c7 : leI 7 n.kind <;> rw [c9] at cb
    all_goals
      simp (maxSteps := 1000000) +contextual -dsimp [Tryz.f147, f_l3Two, hlt, hi, hc, hw, hm1, c9, c7, c2, c3, List.set]

set_option maxHeartbeats 4000000 in
theorem st55nb (all : List Node) (i k : Nat) (n : Node) (acc : List Int) (hall : all.length ≤ 16) (hi : i < all.length) (hc : all[i] = n) (hs : acc.length = i)
   (cb : bad4 n acc = false) (c2 : ltI 2 n.kind = true) (c3 : inR n.kind 3 9 = false) (a : Nat) (ha : n.left = a) (ha2 : a < acc.length) :
    evCode E (orc E) (147 : Nat) (evLoop E (orc E) (147 : Nat) (k + 1)) (loopOf Tryz.f147 0) ⟨62, [(0, nS 201 all), (4, .ref 4 1 [] 0 acc.length), (5, vI i)], [(4, ⟨1, 1, false, [.own 2 (iW acc)]⟩)], 2⟩ =
    some (.normal, ⟨62, [(0, nS 201 all), (4, .ref 4 1 [] 0 (acc ++ [is4 n.kind]).length), (5, vI (i + 1 : Nat))], [(4, ⟨1, 1, false, [.own 2 (iW (acc ++ [is4 n.kind]))]⟩)], 2⟩) := by
    have hlt : ltI (i : Int) (all.length : Int) = true := ltI_t (by omega)
    have hw : IntKind.i64.wrap ((i : Int) + 1) = ((i + 1 : Nat) : Int) := by rw [wrapI] <;> omega
    have hm1 : acc.length + 1 ≤ maxElems := by unfold maxElems; omega
    unfold bad4 want4 at cb
    try unfold is4
    cases c9 : orB (eqI n.kind 9) (eqI n.kind 10) <;> cases c7 : leI 7 n.kind <;> rw [c9] at cb
    all_goals
      have e1 : sAt acc (a : Int) = acc[a] := by simp [sAt, ha2]
      rw [ha, e1, c2, c3] at cb
      simp only [andB_tl, andB_fl, orB_fr, Bool.false_eq_true, if_false, if_true] at cb
      simp (maxSteps := 1000000) +contextual -dsimp [Tryz.f147, f_l3Two, hlt, hi, hc, hw, hm1, c9, c7, c2, c3, ha, ha2, cb, List.set]

set_option maxHeartbeats 4000000 in
theorem st55nc (all : List Node) (i k : Nat) (n : Node) (acc : List Int) (hall : all.length ≤ 16) (hi : i < all.length) (hc : all[i] = n) (hs : acc.length = i)
   (cb : bad4 n acc = false) (c2 : ltI 2 n.kind = true) (c3 : inR n.kind 3 9 = true) (a b : Nat) (ha : n.left = a) (ha2 : a < acc.length) (hb : n.right = b) (hb2 : b < acc.length) :
    evCode E (orc E) (147 : Nat) (evLoop E (orc E) (147 : Nat) (k + 1)) (loopOf Tryz.f147 0) ⟨62, [(0, nS 201 all), (4, .ref 4 1 [] 0 acc.length), (5, vI i)], [(4, ⟨1, 1, false, [.own 2 (iW acc)]⟩)], 2⟩ =
    some (.normal, ⟨62, [(0, nS 201 all), (4, .ref 4 1 [] 0 (acc ++ [is4 n.kind]).length), (5, vI (i + 1 : Nat))], [(4, ⟨1, 1, false, [.own 2 (iW (acc ++ [is4 n.kind]))]⟩)], 2⟩) := by
    have hlt : ltI (i : Int) (all.length : Int) = true := ltI_t (by omega)
    have hw : IntKind.i64.wrap ((i : Int) + 1) = ((i + 1 : Nat) : Int) := by rw [wrapI] <;> omega
    have hm1 : acc.length + 1 ≤ maxElems := by unfold maxElems; omega
    unfold bad4 want4 at cb
    try unfold is4
    cases c9 : orB (eqI n.kind 9) (eqI n.kind 10) <;> cases c7 : leI 7 n.kind <;> rw [c9] at cb
    all_goals
      have e1 : sAt acc (a : Int) = acc[a] := by simp [sAt, ha2]
      have e2 : sAt acc (b : Int) = acc[b] := by simp [sAt, hb2]
      rw [ha, e1, hb, e2, c2, c3] at cb
      simp only [andB_tl, Bool.false_eq_true, if_false, if_true] at cb
      simp (maxSteps := 1000000) +contextual -dsimp [Tryz.f147, f_l3Two, hlt, hi, hc, hw, hm1, c9, c7, c2, c3, ha, ha2, hb, hb2, cb, List.set]

set_option maxHeartbeats 4000000 in
theorem st55rb (all : List Node) (i k : Nat) (n : Node) (acc : List Int) (hall : all.length ≤ 16) (hi : i < all.length) (hc : all[i] = n) (hs : acc.length = i)
   (cb : bad4 n acc = true) (c2 : ltI 2 n.kind = true) (c3 : inR n.kind 3 9 = false) (a : Nat) (ha : n.left = a) (ha2 : a < acc.length) :
    evCode E (orc E) (147 : Nat) (evLoop E (orc E) (147 : Nat) (k + 1)) (loopOf Tryz.f147 0) ⟨62, [(0, nS 201 all), (4, .ref 4 1 [] 0 acc.length), (5, vI i)], [(4, ⟨1, 1, false, [.own 2 (iW acc)]⟩)], 2⟩ =
    some (.ret, ⟨62, [(2, .v (.slice none 0 0)), (3, vB false)], [(4, ⟨1, 1, false, [.own 2 (iW acc)]⟩)], 2⟩) := by
    have hlt : ltI (i : Int) (all.length : Int) = true := ltI_t (by omega)
    have hw : IntKind.i64.wrap ((i : Int) + 1) = ((i + 1 : Nat) : Int) := by rw [wrapI] <;> omega
    have hm1 : acc.length + 1 ≤ maxElems := by unfold maxElems; omega
    unfold bad4 want4 at cb
    try unfold is4
    cases c9 : orB (eqI n.kind 9) (eqI n.kind 10) <;> cases c7 : leI 7 n.kind <;> rw [c9] at cb
    all_goals
      have e1 : sAt acc (a : Int) = acc[a] := by simp [sAt, ha2]
      rw [ha, e1, c2, c3] at cb
      simp only [andB_tl, andB_fl, orB_fr, Bool.false_eq_true, if_false, if_true] at cb
      simp (maxSteps := 1000000) +contextual -dsimp [Tryz.f147, hlt, hi, hc, c9, c7, c2, ha, ha2, cb, List.set]

set_option maxHeartbeats 4000000 in
theorem st55rc (all : List Node) (i k : Nat) (n : Node) (acc : List Int) (hall : all.length ≤ 16) (hi : i < all.length) (hc : all[i] = n) (hs : acc.length = i)
   (cb : bad4 n acc = true) (c2 : ltI 2 n.kind = true) (c3 : inR n.kind 3 9 = true) (a b : Nat) (ha : n.left = a) (ha2 : a < acc.length) (hb : n.right = b) (hb2 : b < acc.length) :
    evCode E (orc E) (147 : Nat) (evLoop E (orc E) (147 : Nat) (k + 1)) (loopOf Tryz.f147 0) ⟨62, [(0, nS 201 all), (4, .ref 4 1 [] 0 acc.length), (5, vI i)], [(4, ⟨1, 1, false, [.own 2 (iW acc)]⟩)], 2⟩ =
    some (.ret, ⟨62, [(2, .v (.slice none 0 0)), (3, vB false)], [(4, ⟨1, 1, false, [.own 2 (iW acc)]⟩)], 2⟩) := by
    have hlt : ltI (i : Int) (all.length : Int) = true := ltI_t (by omega)
    have hw : IntKind.i64.wrap ((i : Int) + 1) = ((i + 1 : Nat) : Int) := by rw [wrapI] <;> omega
    have hm1 : acc.length + 1 ≤ maxElems := by unfold maxElems; omega
    unfold bad4 want4 at cb
    try unfold is4
    cases c9 : orB (eqI n.kind 9) (eqI n.kind 10) <;> cases c7 : leI 7 n.kind <;> rw [c9] at cb
    all_goals
      have e1 : sAt acc (a : Int) = acc[a] := by simp [sAt, ha2]
      have e2 : sAt acc (b : Int) = acc[b] := by simp [sAt, hb2]
      rw [ha, e1, hb, e2, c2, c3] at cb
      simp only [andB_tl, Bool.false_eq_true, if_false, if_true] at cb
      simp (maxSteps := 1000000) +contextual -dsimp [Tryz.f147, f_l3Two, hlt, hi, hc, c9, c7, c2, c3, ha, ha2, hb, hb2, cb, List.set]
end Go.TM.Lr

namespace Go.TM.Lr
open Go Go.TM Go.Proofs
set_option maxRecDepth 20000
attribute [local congr] gif_cg
attribute [local simp] footOf noClash clash upsets setsHit setHits layHits layMeets setsMeet evFeet

/-! ### ExprFault: the nodes, one by one -/
def nodesM : Nat → List Node → Int
  | _, [] => 0
  | i, n :: r => if notB (eqI (nodeFaultM n i) 0) = true then nodeFaultM n i else nodesM (i + 1) r

theorem loop48a (all : List Node) (hall : all.length ≤ 16) : ∀ (rest : List Node) (i : Nat), all.drop i = rest →
    evLoop E (orc E) (133 : Nat) (rest.length + 1) (loopOf Tryz.f133 0) ⟨112, [(0, nS 201 all), (16, nS 201 all), (17, vI all.length), (18, vI i)], [], 2⟩ =
    (if eqI (nodesM i rest) 0 = true then some (.exit 0, ⟨112, [(0, nS 201 all), (16, nS 201 all), (17, vI all.length), (18, vI (i + rest.length : Nat)), (19, vB false)], [], 2⟩) else some (.ret, ⟨112, [(2, vI (nodesM i rest))], [], 2⟩))
  | [], i, h => by
    have hge : all.length ≤ i := by simpa using h
    have hlt : ltI (i : Int) (all.length : Int) = false := ltI_f (by omega)
    rw [loop_eq]
    simp +contextual -dsimp [Tryz.f133, hlt, nodesM, eqI_self]
  | n :: rest, i, h => by
    obtain ⟨hi, hc, hr⟩ := drop_cons h
    have hlt : ltI (i : Int) (all.length : Int) = true := ltI_t (by omega)
    have hw : IntKind.i64.wrap ((i : Int) + 1) = ((i + 1 : Nat) : Int) := by rw [wrapI] <;> omega
    have he : i + 1 + rest.length = i + (rest.length + 1) := by omega
    have g := f_nodeFault n i (by omega) (by omega)
    cases c : eqI (nodeFaultM n i) 0
    · have hm : nodesM i (n :: rest) = nodeFaultM n i := by simp [nodesM, c, notB]
      rw [hm, c, if_neg (by simp)]
      refine evLoop_out ?_ (by simp)
      simp (maxSteps := 1000000) +contextual -dsimp [Tryz.f133, hlt, hi, hc, g, c, List.set]
    · have ih := loop48a all hall rest (i + 1) hr
      rw [he] at ih
      have hm : nodesM i (n :: rest) = nodesM (i + 1) rest := by simp [nodesM, c, notB]
      rw [hm]
      refine evLoop_next ?_ (by simpa only [List.length_cons] using ih)
      simp (maxSteps := 1000000) +contextual -dsimp [Tryz.f133, hlt, hi, hc, hw, g, c, List.set]
end Go.TM.Lr

namespace Go.TM.Lr
open Go Go.TM Go.Proofs
set_option maxRecDepth 20000
attribute [local congr] gif_cg
attribute [local simp] footOf noClash clash upsets setsHit setHits layHits layMeets setsMeet evFeet

def okNode (n : Node) (i : Nat) : Prop := (eqI n.kind 10 = true → 0 ≤ n.left ∧ n.left < i) ∧ (eqI n.kind 10 = false → inR n.kind 3 9 = true → 0 ≤ n.left ∧ n.left < i ∧ 0 ≤ n.right ∧ n.right < i)

def szAt (sizes : List Int) (k : Int) : Int := sizes.getD k.toNat 0
def wrongM (n : Node) (i : Int) (sizes : List Int) (wrong : Bool) : Bool :=
  if eqI n.kind 10 = true then orB wrong (notB (eqI n.left (i - 1)))
  else if inR n.kind 3 9 = true then orB (orB wrong (notB (eqI n.right (i - 1)))) (notB (eqI n.left (i - 1 - szAt sizes n.right)))
  else wrong
def sizeM (n : Node) (sizes : List Int) : Int :=
  if eqI n.kind 10 = true then 1 + szAt sizes n.left
  else if inR n.kind 3 9 = true then 1 + (szAt sizes n.left + szAt sizes n.right)
  else 1

def walkM : List Node → Nat → List Int → Bool → List Int × Bool
  | [], _, sizes, wrong => (sizes, wrong)
  | n :: r, i, sizes, wrong => walkM r (i + 1) (sizes ++ [sizeM n sizes]) (wrongM n i sizes wrong)

theorem szAt_bd {sizes : List Int} {B : Int} (hB : 0 ≤ B) (hb : ∀ x, x ∈ sizes → 0 ≤ x ∧ x ≤ B) (k : Int) : 0 ≤ szAt sizes k ∧ szAt sizes k ≤ B := by
  unfold szAt
  rcases Nat.lt_or_ge k.toNat sizes.length with h | h
  · rw [List.getD_eq_getElem?_getD, List.getElem?_eq_getElem h]
    exact hb _ (List.getElem_mem h)
  · rw [List.getD_eq_getElem?_getD, List.getElem?_eq_none h]
    exact ⟨Int.le_refl _, hB⟩

theorem loop48b (all : List Node) (hall : all.length ≤ 16) : ∀ (rest : List Node) (i : Nat) (sizes : List Int) (wrong : Bool), all.drop i = rest → sizes.length = i → (∀ x, x ∈ sizes → 0 ≤ x ∧ x ≤ (4 : Int) ^ i) →
    (∀ (k : Nat) (n : Node), rest[k]? = some n → okNode n (i + k)) →
    evLoop E (orc E) (133 : Nat) (rest.length + 1) (loopOf Tryz.f133 1) ⟨112, [(0, nS 201 all), (6, .ref 6 1 [] 0 sizes.length), (7, vB wrong), (31, nS 201 all), (32, vI all.length), (33, vI i)], [(6, ⟨1, 1, false, [.own 2 (iE sizes)]⟩)], 2⟩ =
    some (.exit 2, ⟨112, [(0, nS 201 all), (6, .ref 6 1 [] 0 (walkM rest i sizes wrong).1.length), (7, vB (walkM rest i sizes wrong).2), (31, nS 201 all), (32, vI all.length), (33, vI (i + rest.length : Nat)), (34, vB false)], [(6, ⟨1, 1, false, [.own 2 (iE (walkM rest i sizes wrong).1)]⟩)], 2⟩)
  | [], i, sizes, wrong, h, hs, hb, ho => by
    have hge : all.length ≤ i := by simpa using h
    have hlt : ltI (i : Int) (all.length : Int) = false := ltI_f (by omega)
    rw [loop_eq]
    simp +contextual -dsimp [Tryz.f133, hlt, walkM]
  | n :: rest, i, sizes, wrong, h, hs, hb, ho => by
    obtain ⟨hi, hc, hr⟩ := drop_cons h
    have hlt : ltI (i : Int) (all.length : Int) = true := ltI_t (by omega)
    have hw : IntKind.i64.wrap ((i : Int) + 1) = ((i + 1 : Nat) : Int) := by rw [wrapI] <;> omega
    have hw1 : IntKind.i64.wrap ((i : Int) - 1) = (i : Int) - 1 := by rw [wrapI] <;> omega
    have he : i + 1 + rest.length = i + (rest.length + 1) := by omega
    have hm1 : sizes.length + 1 ≤ maxElems := by unfold maxElems; omega
    have hp : (4 : Int) ^ i ≤ 4294967296 := by
      have h1 := Nat.pow_le_pow_right (n := 4) (by omega) (show i ≤ 16 by omega)
      have h2 : ((4 : Int) ^ i) = ((4 ^ i : Nat) : Int) := by simp
      rw [h2]; omega
    have hp0 : (0 : Int) < 4 ^ i := Int.pow_pos (by omega)
    have hp1 : (4 : Int) ^ (i + 1) = 4 * 4 ^ i := by rw [Int.pow_succ]; omega
    have bl := szAt_bd (by omega) hb n.left
    have br := szAt_bd (by omega) hb n.right
    obtain ⟨o1, o2⟩ := ho 0 n (by simp)
    have hsz : 0 ≤ sizeM n sizes ∧ sizeM n sizes ≤ 4 ^ (i + 1) := by
      unfold sizeM
      rw [hp1]
      split
      · omega
      · split <;> omega
    have ih := loop48b all hall rest (i + 1) (sizes ++ [sizeM n sizes]) (wrongM n i sizes wrong) hr (by simp; omega) (fun x hx => by
      rcases List.mem_append.1 hx with hx | hx
      · have := hb x hx; omega
      · simp only [List.mem_singleton] at hx; subst hx; exact hsz) (fun k m hk => by
      have := ho (k + 1) m (by simpa using hk)
      have e : i + 1 + k = i + (k + 1) := by omega
      rw [e]; exact this)
    rw [he] at ih
    refine evLoop_next ?_ (by simpa only [List.length_cons, walkM] using ih)
    cases c1 : eqI n.kind 10
    · cases c2 : inR n.kind 3 9
      · simp (maxSteps := 1000000) +contextual -dsimp [Tryz.f133, f_isTwo, hlt, hi, hc, hw, hw1, hm1, c1, c2, sizeM, wrongM, List.set]
      · obtain ⟨p1, p2, p3, p4⟩ := o2 c1 c2
        obtain ⟨l, hl⟩ := Int.eq_ofNat_of_zero_le p1
        obtain ⟨r, hr'⟩ := Int.eq_ofNat_of_zero_le p3
        have hl2 : l < sizes.length := by omega
        have hr2 : r < sizes.length := by omega
        have e1 : szAt sizes (l : Int) = sizes[l] := by simp [szAt, hl2]
        have e2 : szAt sizes (r : Int) = sizes[r] := by simp [szAt, hr2]
        rw [hl, e1] at bl
        rw [hr', e2] at br
        have w1 : IntKind.i64.wrap (sizes[l] + sizes[r]) = sizes[l] + sizes[r] := by rw [wrapI] <;> omega
        have w2 : IntKind.i64.wrap (1 + (sizes[l] + sizes[r])) = 1 + (sizes[l] + sizes[r]) := by rw [wrapI] <;> omega
        have w3 : IntKind.i64.wrap ((i : Int) - 1 - sizes[r]) = (i : Int) - 1 - sizes[r] := by rw [wrapI] <;> omega
        simp (maxSteps := 1000000) +contextual -dsimp [Tryz.f133, f_isTwo, hlt, hi, hc, hw, hw1, hm1, c1, c2, hl, hr', hl2, hr2, e1, e2, w1, w2, w3, sizeM, wrongM, List.set]
    · obtain ⟨p1, p2⟩ := o1 c1
      obtain ⟨l, hl⟩ := Int.eq_ofNat_of_zero_le p1
      have hl2 : l < sizes.length := by omega
      have e1 : szAt sizes (l : Int) = sizes[l] := by simp [szAt, hl2]
      rw [hl, e1] at bl
      have w1 : IntKind.i64.wrap (1 + sizes[l]) = 1 + sizes[l] := by rw [wrapI] <;> omega
      simp (maxSteps := 1000000) +contextual -dsimp [Tryz.f133, hlt, hi, hc, hw, hw1, hm1, c1, hl, hl2, e1, w1, sizeM, wrongM, List.set]
end Go.TM.Lr

namespace Go.TM.Lr
open Go Go.TM Go.Proofs
set_option maxRecDepth 20000
attribute [local congr] gif_cg
attribute [local simp] footOf noClash clash upsets setsHit setHits layHits layMeets setsMeet evFeet

theorem first2_zero {a b : Int} (h : first2 a b = 0) : a = 0 ∧ b = 0 := by
  unfold first2 at h
  split at h
  · rename_i c; simp [eqI] at c; exact ⟨c, h⟩
  · rename_i c; simp [eqI] at c; exact absurd h c

theorem nodeFault_ok {n : Node} {i : Nat} (h : nodeFaultM n i = 0) : okNode n i := by
  unfold nodeFaultM at h
  refine ⟨fun h10 => ?_, fun h10 h39 => ?_⟩
  · have e : n.kind = 10 := by simpa [eqI] using h10
    rw [if_neg (by simp [orB, eqI, e]), if_pos h10] at h
    have := (first2_zero h).2
    split at this
    · simp at this
    · rename_i hc
      simp [notB, inR, andB, leI] at hc
      omega
  · have e : 3 ≤ n.kind ∧ n.kind ≤ 9 := by simpa [inR, andB, leI] using h39
    rw [if_neg (by simp [orB, eqI]; omega), if_neg (by rw [h10]; simp), if_pos h39] at h
    have := (first2_zero h).2
    split at this
    · simp at this
    · rename_i hc
      simp [notB, inR, andB, leI, orB] at hc
      omega

theorem nodes_ok : ∀ {l : List Node} {i : Nat}, nodesM i l = 0 → ∀ (k : Nat) (n : Node), l[k]? = some n → okNode n (i + k)
  | [], i, _, k, n, h => by simp at h
  | x :: l, i, hz, k, n, h => by
    unfold nodesM at hz
    split at hz
    · rename_i hc
      rw [hz] at hc; simp [notB, eqI] at hc
    · rename_i hc
      have h0 : nodeFaultM x i = 0 := by simpa [notB, eqI] using hc
      cases k with
      | zero => simp at h; subst h; exact nodeFault_ok h0
      | succ k =>
        have := nodes_ok hz k n (by simpa using h)
        have e : i + 1 + k = i + (k + 1) := by omega
        rw [← e]; exact this

theorem walk_len : ∀ (l : List Node) (i : Nat) (sizes : List Int) (w : Bool), (walkM l i sizes w).1.length = sizes.length + l.length
  | [], _, _, _ => by simp [walkM]
  | n :: l, i, sizes, w => by simp only [walkM]; rw [walk_len]; simp; omega

def exprM (l : List Node) : Int :=
  if notB (inR l.length 1 16) = true then 2
  else if notB (eqI (nodesM 0 l) 0) = true then nodesM 0 l
  else if orB (walkM l 0 [] false).2 (notB (eqI (szAt (walkM l 0 [] false).1 (l.length - 1)) l.length)) = true then 1 else 0

theorem f_ExprFault (l : List Node) (hl : l.length < 2 ^ 62) : fo 133 [A (nS 201 l)] = some (R (vI (exprM l))) := by
  cases c1 : inR l.length 1 16
  · refine orc_133 1 ?_
    simp (maxSteps := 1000000) +contextual -dsimp [Tryz.f133, f_inRange, c1, exprM]
  · have hl2 : 1 ≤ l.length ∧ l.length ≤ 16 := by simp [inR, andB, leI] at c1; omega
    refine orc_133 (l.length + 1) ?_
    have ha := loop48a l hl2.2 l 0 rfl
    simp -dsimp [Tryz.f133] at ha
    cases c2 : eqI (nodesM 0 l) 0
    · rw [c2] at ha
      simp (maxSteps := 1000000) +contextual -dsimp [Tryz.f133, f_inRange, c1, c2, ha, exprM]
    · have hb := loop48b l hl2.2 l 0 [] false rfl rfl (by simp) (nodes_ok (by simpa [eqI] using c2))
      rw [c2] at ha
      simp -dsimp [Tryz.f133] at hb
      have hlen := walk_len l 0 [] false
      simp at hlen
      have hlt : l.length - 1 < (walkM l 0 [] false).1.length := by omega
      have hw : IntKind.i64.wrap ((l.length : Int) - 1) = ((l.length - 1 : Nat) : Int) := by rw [wrapI] <;> omega
      have e1 : szAt (walkM l 0 [] false).1 ((l.length : Int) - 1) = (walkM l 0 [] false).1[l.length - 1] := by
        have : ((l.length : Int) - 1).toNat = l.length - 1 := by omega
        simp [szAt, this, hlt]
      simp (maxSteps := 1000000) +contextual -dsimp [Tryz.f133, f_inRange, f_codeIf, c1, c2, ha, hb, hw, hlt, e1, exprM]
end Go.TM.Lr

namespace Go.TM.Lr
open Go Go.TM Go.Proofs
set_option maxRecDepth 20000
attribute [local congr] gif_cg
attribute [local simp] footOf noClash clash upsets setsHit setHits layHits layMeets setsMeet evFeet

def badT (n : Node) (types : List Int) : Bool :=
  orB (andB (ltI 2 n.kind) (notB (eqI (szAt types n.left) (partB n.kind).1))) (andB (inR n.kind 3 9) (notB (eqI (szAt types n.right) (partB n.kind).1)))

/-- The types of the nodes; false: a part has another one. -/
def typesM : List Node → List Int → Bool × List Int
  | [], acc => (true, acc)
  | n :: r, acc => if badT n acc = true then (false, acc) else typesM r (acc ++ [(partB n.kind).2])

abbrev res52 (a b : Int) : Root := ⟨1, 1, true, [vI a, vI b]⟩

set_option maxHeartbeats 1000000 in
theorem loop52 (all : List Node) (hall : all.length ≤ 16) : ∀ (rest : List Node) (i : Nat) (acc : List Int), all.drop i = rest → acc.length = i →
    (∀ (k : Nat) (n : Node), rest[k]? = some n → ltI 2 n.kind = true → (0 ≤ n.left ∧ n.left < (i + k : Nat)) ∧ (inR n.kind 3 9 = true → 0 ≤ n.right ∧ n.right < (i + k : Nat))) →
    evLoop E (orc E) (137 : Nat) (rest.length + 1) (loopOf Tryz.f137 0) ⟨67, [(2, .ptr 2 1 [] 0), (4, .ref 4 1 [] 0 acc.length), (16, nS 201 all), (17, vI all.length), (18, vI i)], [(2, res52 0 0), (4, ⟨1, 1, false, [.own 2 (iE acc)]⟩)], 2⟩ =
    (if (typesM rest acc).1 = true then some (.exit 0, ⟨67, [(2, .ptr 2 1 [] 0), (4, .ref 4 1 [] 0 (typesM rest acc).2.length), (16, nS 201 all), (17, vI all.length), (18, vI (i + rest.length : Nat)), (19, vB false)], [(2, res52 0 0), (4, ⟨1, 1, false, [.own 2 (iE (typesM rest acc).2)]⟩)], 2⟩)
     else some (.ret, ⟨67, [(2, .ptr 2 1 [] 0)], [(2, res52 7 0), (4, ⟨1, 1, false, [.own 2 (iE (typesM rest acc).2)]⟩)], 2⟩))
  | [], i, acc, h, hs, ho => by
    have hge : all.length ≤ i := by simpa using h
    have hlt : ltI (i : Int) (all.length : Int) = false := ltI_f (by omega)
    rw [loop_eq]
    simp +contextual -dsimp [Tryz.f137, hlt, typesM]
  | n :: rest, i, acc, h, hs, ho => by
    obtain ⟨hi, hc, hr⟩ := drop_cons h
    have hlt : ltI (i : Int) (all.length : Int) = true := ltI_t (by omega)
    have hw : IntKind.i64.wrap ((i : Int) + 1) = ((i + 1 : Nat) : Int) := by rw [wrapI] <;> omega
    have he : i + 1 + rest.length = i + (rest.length + 1) := by omega
    have hm1 : acc.length + 1 ≤ maxElems := by unfold maxElems; omega
    have ih := loop52 all hall rest (i + 1) (acc ++ [(partB n.kind).2]) hr (by simp; omega) (fun k m hk => by
      have := ho (k + 1) m (by simpa using hk)
      have e : i + 1 + k = i + (k + 1) := by omega
      rw [e]; exact this)
    rw [he] at ih
    have ho' := ho 0 n (by simp)
    have step : (badT n acc = false → evCode E (orc E) (137 : Nat) (evLoop E (orc E) (137 : Nat) (rest.length + 1)) (loopOf Tryz.f137 0) ⟨67, [(2, .ptr 2 1 [] 0), (4, .ref 4 1 [] 0 acc.length), (16, nS 201 all), (17, vI all.length), (18, vI i)], [(2, res52 0 0), (4, ⟨1, 1, false, [.own 2 (iE acc)]⟩)], 2⟩ =
        some (.normal, ⟨67, [(2, .ptr 2 1 [] 0), (4, .ref 4 1 [] 0 (acc ++ [(partB n.kind).2]).length), (16, nS 201 all), (17, vI all.length), (18, vI (i + 1 : Nat))], [(2, res52 0 0), (4, ⟨1, 1, false, [.own 2 (iE (acc ++ [(partB n.kind).2]))]⟩)], 2⟩)) ∧
        (badT n acc = true → evCode E (orc E) (137 : Nat) (evLoop E (orc E) (137 : Nat) (rest.length + 1)) (loopOf Tryz.f137 0) ⟨67, [(2, .ptr 2 1 [] 0), (4, .ref 4 1 [] 0 acc.length), (16, nS 201 all), (17, vI all.length), (18, vI i)], [(2, res52 0 0), (4, ⟨1, 1, false, [.own 2 (iE acc)]⟩)], 2⟩ =
        some (.ret, ⟨67, [(2, .ptr 2 1 [] 0)], [(2, res52 7 0), (4, ⟨1, 1, false, [.own 2 (iE acc)]⟩)], 2⟩)) := by
      unfold badT
      cases c1 : ltI 2 n.kind
      · have c2 : inR n.kind 3 9 = false := by simp [ltI, inR, andB, leI] at c1 ⊢; omega
        refine ⟨fun _ => ?_, fun hb => by rw [c2] at hb; simp [orB, andB] at hb⟩
        simp (maxSteps := 1000000) +contextual -dsimp [Tryz.f137, f_isTwo, f_partType, hlt, hi, hc, hw, hm1, c1, c2, List.set]
      · obtain ⟨⟨p1, p2⟩, p3⟩ := ho' c1
        obtain ⟨l, hl⟩ := Int.eq_ofNat_of_zero_le p1
        have hl2 : l < acc.length := by omega
        have e1 : szAt acc (l : Int) = acc[l] := by simp [szAt, hl2]
        rw [hl, e1]
        cases c2 : inR n.kind 3 9
        · refine ⟨fun hb => ?_, fun hb => ?_⟩
          all_goals
            simp only [andB_tl, andB_fl, orB_fr] at hb
            simp (maxSteps := 1000000) +contextual -dsimp [Tryz.f137, f_isTwo, f_partType, hlt, hi, hc, hw, hm1, c1, c2, hl, hl2, hb, List.set]
        · obtain ⟨p4, p5⟩ := p3 c2
          obtain ⟨r, hr'⟩ := Int.eq_ofNat_of_zero_le p4
          have hr2 : r < acc.length := by omega
          have e2 : szAt acc (r : Int) = acc[r] := by simp [szAt, hr2]
          rw [hr', e2]
          refine ⟨fun hb => ?_, fun hb => ?_⟩
          all_goals
            simp only [andB_tl] at hb
            simp (maxSteps := 1000000) +contextual -dsimp [Tryz.f137, f_isTwo, f_partType, hlt, hi, hc, hw, hm1, c1, c2, hl, hl2, hr', hr2, hb, List.set]
    cases cb : badT n acc
    · have hm : typesM (n :: rest) acc = typesM rest (acc ++ [(partB n.kind).2]) := by simp [typesM, cb]
      rw [hm]
      exact evLoop_next (step.1 cb) (by simpa only [List.length_cons] using ih)
    · have hm : typesM (n :: rest) acc = (false, acc) := by simp [typesM, cb]
      rw [hm, if_neg (by simp)]
      exact evLoop_out (step.2 cb) (by simp)

theorem types_len : ∀ (l : List Node) (acc : List Int), (typesM l acc).1 = true → (typesM l acc).2.length = acc.length + l.length
  | [], acc, _ => by simp [typesM]
  | n :: l, acc, h => by
    unfold typesM at h ⊢
    split at h
    · simp at h
    · rename_i hc
      rw [if_neg hc]
      rw [types_len l _ h]; simp; omega

abbrev RI (c v : Int) : Res := ⟨.agg [vI c, vI v], [], true⟩

def typeM (l : List Node) : Int × Int :=
  if notB (eqI (exprM l) 0) = true then (exprM l, 0)
  else if (typesM l []).1 = true then (0, szAt (typesM l []).2 (l.length - 1)) else (7, 0)

theorem okNode_types {n : Node} {i : Nat} (h : okNode n i) (hk : nodeFaultM n i = 0) (h2 : ltI 2 n.kind = true) : (0 ≤ n.left ∧ n.left < (i : Nat)) ∧ (inR n.kind 3 9 = true → 0 ≤ n.right ∧ n.right < (i : Nat)) := by
  obtain ⟨h10, h39⟩ := h
  have g2 : 2 < n.kind := by simpa [ltI] using h2
  by_cases e10 : n.kind = 10
  · have a := h10 (by simp [eqI, e10])
    exact ⟨a, fun hc => by simp [inR, andB, leI] at hc; omega⟩
  · have f10 : eqI n.kind 10 = false := by simp [eqI, e10]
    by_cases e39 : inR n.kind 3 9 = true
    · obtain ⟨a, b, c, d⟩ := h39 f10 e39
      exact ⟨⟨a, b⟩, fun _ => ⟨c, d⟩⟩
    · exfalso
      unfold nodeFaultM at hk
      rw [if_neg (by simp [orB, eqI]; omega), if_neg (by rw [f10]; simp), if_neg e39] at hk
      simp at hk

theorem nodes_all : ∀ {l : List Node} {i : Nat}, nodesM i l = 0 → ∀ (k : Nat) (n : Node), l[k]? = some n → nodeFaultM n (i + k : Nat) = 0
  | [], i, _, k, n, h => by simp at h
  | x :: l, i, hz, k, n, h => by
    unfold nodesM at hz
    split at hz
    · rename_i hc
      rw [hz] at hc; simp [notB, eqI] at hc
    · rename_i hc
      have h0 : nodeFaultM x i = 0 := by simpa [notB, eqI] using hc
      cases k with
      | zero => simp at h; subst h; exact h0
      | succ k =>
        have := nodes_all hz k n (by simpa using h)
        have e : i + 1 + k = i + (k + 1) := by omega
        rw [← e]; exact this

theorem expr_zero {l : List Node} (h : exprM l = 0) : 1 ≤ l.length ∧ l.length ≤ 16 ∧ nodesM 0 l = 0 := by
  unfold exprM at h
  split at h
  · simp at h
  · rename_i c1
    split at h
    · rename_i c2; rw [h] at c2; simp [notB, eqI] at c2
    · rename_i c2
      simp [notB, inR, andB, leI] at c1
      simp [notB, eqI] at c2
      omega

theorem f_TypeOf (l : List Node) (hl : l.length < 2 ^ 62) : fo 137 [A (nS 201 l)] = some (RI (typeM l).1 (typeM l).2) := by
  have g := f_ExprFault l hl
  cases c1 : eqI (exprM l) 0
  · refine orc_137 1 ?_
    simp (maxSteps := 1000000) +contextual -dsimp [Tryz.f137, g, c1, typeM, List.set]
  · obtain ⟨h1, h2, h3⟩ := expr_zero (by simpa [eqI] using c1)
    have e0 : exprM l = 0 := by simpa [eqI] using c1
    have hlp := loop52 l h2 l 0 [] rfl rfl (fun k n hk h2 => by
      simpa using okNode_types (nodes_ok h3 k n hk) (nodes_all h3 k n hk) h2)
    refine orc_137 (l.length + 1) ?_
    simp -dsimp [Tryz.f137] at hlp
    cases c2 : (typesM l []).1
    · rw [c2] at hlp
      simp (maxSteps := 1000000) +contextual -dsimp [Tryz.f137, g, e0, c2, hlp, typeM, eqI_self, List.set]
    · rw [c2] at hlp
      have hlen := types_len l [] c2
      simp at hlen
      have hlt : l.length - 1 < (typesM l []).2.length := by omega
      have hlt2 : l.length - 1 < l.length := by omega
      have hw : IntKind.i64.wrap ((l.length : Int) - 1) = ((l.length - 1 : Nat) : Int) := by rw [wrapI] <;> omega
      have e1 : szAt (typesM l []).2 ((l.length : Int) - 1) = (typesM l []).2[l.length - 1] := by
        have : ((l.length : Int) - 1).toNat = l.length - 1 := by omega
        simp [szAt, this, hlt]
      simp (maxSteps := 1000000) +contextual -dsimp [Tryz.f137, g, e0, c2, hlp, hlen, hw, hlt2, e1, typeM, eqI_self, List.set]
end Go.TM.Lr

namespace Go.TM.Lr
open Go Go.TM Go.Proofs
set_option maxRecDepth 20000
attribute [local congr] gif_cg
attribute [local simp] footOf noClash clash upsets setsHit setHits layHits layMeets setsMeet evFeet

/-! ### wantsCond, condFault -/
def parOf (l : List Step) (at_ : Nat) : Int := match l[at_]? with | some s => s.parent | none => 0
def kindOf (l : List Step) (at_ : Int) : Int := match l[at_.toNat]? with | some s => s.kind | none => 0

def wantsM (l : List Step) (at_ : Nat) : Bool :=
  if orB (eqI at_ 0) (notB (eqI (kindOf l (parOf l at_)) 3)) = true then false
  else notB (eqI at_ (szAt (kidsM (parOf l at_) 0 l) ((kidsM (parOf l at_) 0 l).length - 1)))

theorem kids_mem {p : Int} : ∀ {l : List Step} {i k : Nat} {s : Step}, l[k]? = some s → 0 < i + k → s.parent = p → ((i + k : Nat) : Int) ∈ kidsM p i l
  | [], i, k, s, h, _, _ => by simp at h
  | x :: l, i, 0, s, h, h0, hp => by
    simp at h; subst h
    have : andB (ltI 0 (i : Int)) (eqI x.parent p) = true := by simp [andB, ltI, eqI, hp]; omega
    simp [kidsM, this]
  | x :: l, i, k + 1, s, h, h0, hp => by
    have := kids_mem (i := i + 1) (k := k) (by simpa using h) (by omega) hp
    have e : i + 1 + k = i + (k + 1) := by omega
    rw [e] at this
    unfold kidsM
    split
    · exact List.mem_cons_of_mem _ this
    · exact this

theorem f_wantsCond (l : List Step) (hl : l.length ≤ 1000) (at_ : Nat) (ha : at_ < l.length) (hp : 0 < at_ → 0 ≤ parOf l at_ ∧ parOf l at_ < l.length) :
    fo 136 [A (.sl 99 (l.map (sT 201))), A (vI at_)] = some (R (vB (wantsM l at_))) := by
  have hpar : (l[at_]).parent = parOf l at_ := by simp [parOf, ha]
  refine orc_136 1 ?_
  cases c1 : eqI at_ 0
  · have h0 : 0 < at_ := by simp [eqI] at c1; omega
    obtain ⟨p1, p2⟩ := hp h0
    obtain ⟨k, hk⟩ := Int.eq_ofNat_of_zero_le p1
    have hk2 : k < l.length := by omega
    have hkind : (l[k]).kind = kindOf l (k : Int) := by simp [kindOf, hk2]
    rw [hk] at hpar
    cases c2 : eqI (kindOf l (k : Int)) 3
    · simp (maxSteps := 1000000) +contextual -dsimp [Tryz.f136, ha, hpar, hk, hk2, hkind, c1, c2, wantsM]
    · have g := f_kids l hl (k : Int)
      have hm : ((0 + at_ : Nat) : Int) ∈ kidsM (k : Int) 0 l := kids_mem (k := at_) (s := l[at_]) (by simp [ha]) (by omega) hpar
      have hpos : 0 < (kidsM (k : Int) 0 l).length := List.length_pos_of_mem hm
      have hkl : (kidsM (k : Int) 0 l).length ≤ 1000 := by
        have : ∀ (l : List Step) (i : Nat), (kidsM (k : Int) i l).length ≤ l.length := fun l => by
          induction l with
          | nil => intro i; simp [kidsM]
          | cons s l ih => intro i; unfold kidsM; split <;> simp <;> have := ih (i + 1) <;> omega
        have := this l 0; omega
      have hw : IntKind.i64.wrap (((kidsM (k : Int) 0 l).length : Int) - 1) = (((kidsM (k : Int) 0 l).length - 1 : Nat) : Int) := by rw [wrapI] <;> omega
      have hlt : (kidsM (k : Int) 0 l).length - 1 < (kidsM (k : Int) 0 l).length := by omega
      have e1 : szAt (kidsM (k : Int) 0 l) (((kidsM (k : Int) 0 l).length : Int) - 1) = (kidsM (k : Int) 0 l)[(kidsM (k : Int) 0 l).length - 1] := by
        have : (((kidsM (k : Int) 0 l).length : Int) - 1).toNat = (kidsM (k : Int) 0 l).length - 1 := by omega
        simp [szAt, this, hlt]
      have hse : sealEs (iE (kidsM (k : Int) 0 l)) = iE (kidsM (k : Int) 0 l) := sealEs_map (f := fun n => [vI n]) (g := fun n => [vI n]) (fun a => by simp [sealL, seal_]) _
      simp (maxSteps := 1000000) +contextual -dsimp [Tryz.f136, ha, hpar, hk, hk2, hkind, c1, c2, g, hse, hw, hlt, e1, wantsM]
  · simp (maxSteps := 1000000) +contextual -dsimp [Tryz.f136, ha, hpar, c1, wantsM]
end Go.TM.Lr

namespace Go.TM.Lr
open Go Go.TM Go.Proofs
set_option maxRecDepth 20000
attribute [local congr] gif_cg
attribute [local simp] footOf noClash clash upsets setsHit setHits layHits layMeets setsMeet evFeet

def typeFaultM (l : List Node) (want : Int) : Int :=
  if eqI l.length 0 = true then 0 else first2 (typeM l).1 (if notB (eqI (typeM l).2 want) = true then 7 else 0)

theorem f_typeFault (l : List Node) (hl : l.length < 2 ^ 62) (want : Int) : fo 106 [A (nS 201 l), A (vI want)] = some (R (vI (typeFaultM l want))) := by
  have g := f_TypeOf l hl
  refine orc_106 1 ?_
  cases c1 : eqI l.length 0
  · simp (maxSteps := 1000000) +contextual -dsimp [Tryz.f106, g, f_codeIf, f_first2, c1, typeFaultM, List.set]
  · simp (maxSteps := 1000000) +contextual -dsimp [Tryz.f106, c1, typeFaultM]

def hasCond (l : List Step) (at_ : Nat) : Bool := match l[at_]? with | some s => ltI 0 s.cond.length | none => false
def condOf (l : List Step) (at_ : Nat) : List Node := match l[at_]? with | some s => s.cond | none => []
def condCode (l : List Step) (at_ : Nat) : Int :=
  first2 (if notB (inR (kidsM at_ 0 l).length (kidB (kindOf l at_)).1 (kidB (kindOf l at_)).2) = true then 1 else 0) (if notB (eqB (hasCond l at_) (wantsM l at_)) = true then 1 else 0)
def condFaultM (l : List Step) (at_ : Nat) : Int :=
  if orB (notB (eqI (condCode l at_) 0)) (notB (hasCond l at_)) = true then condCode l at_ else exprM (condOf l at_)

theorem f_condFault (l : List Step) (hl : l.length ≤ 1000) (at_ : Nat) (ha : at_ < l.length) (hp : 0 < at_ → 0 ≤ parOf l at_ ∧ parOf l at_ < l.length) (hc : (condOf l at_).length < 2 ^ 62) :
    fo 105 [A (.sl 99 (l.map (sT 201))), A (vI at_)] = some (R (vI (condFaultM l at_))) := by
  have g1 := f_kids l hl at_
  have g2 := f_wantsCond l hl at_ ha hp
  have g3 := f_ExprFault (condOf l at_) hc
  have hse : sealEs (iE (kidsM at_ 0 l)) = iE (kidsM at_ 0 l) := sealEs_map (f := fun n => [vI n]) (g := fun n => [vI n]) (fun a => by simp [sealL, seal_]) _
  have e1 : (l[at_]).kind = kindOf l at_ := by simp [kindOf, ha]
  have e2 : ltI 0 (l[at_]).cond.length = hasCond l at_ := by simp [hasCond, ha]
  have e3 : (l[at_]).cond = condOf l at_ := by simp [condOf, ha]
  have e4 : ltI 0 (condOf l at_).length = hasCond l at_ := by simp [hasCond, condOf, ha]
  refine orc_105 1 ?_
  simp (maxSteps := 1000000) +contextual -dsimp [Tryz.f105, f_kidBounds, f_inRange, f_codeIf, f_first2, g1, g2, g3, hse, ha, e1, e3, e4, condFaultM, condCode, List.set]
  rfl
end Go.TM.Lr

namespace Go.TM.Lr
open Go Go.TM Go.Proofs
set_option maxRecDepth 20000
attribute [local congr] gif_cg
attribute [local simp] footOf noClash clash upsets setsHit setHits layHits layMeets setsMeet evFeet

/-! ### stepFault -/
abbrev argP1 (list deep : List Int) : Arg := ⟨.ptr 1 0 [] 0, some (pR 0 0 list deep)⟩
abbrev outP1 (list deep : List Int) : List (Nat × List T) := [(1, [.own 2 (iE list), .own 2 (iE deep)])]

/-- A code, if something is so (closed). -/
def ci (b : Bool) (c : Int) : Int := if b then c else 0
theorem f_ci (b : Bool) (c : Int) : fo 48 [A (vB b), A (vI c)] = some (R (vI (ci b c))) := f_codeIf b c

def alien (s : Step) : Bool :=
  orB (orB (andB (notB (eqS s.name emp)) (notB (eqI s.kind 2))) (andB (notB (eqI s.arg 0)) (eqI (argB s.kind).2 0))) (andB (ltI 0 s.expr.length) (notB (eqI s.kind 7)))
def stepA (s : Step) (list deep : List Int) : Int :=
  first2 (ci (orB (notB (inR s.kind 1 8)) (alien s)) 1) (nextM list deep s.parent).1
def stepB (s : Step) : Int :=
  if eqI s.kind 2 = true then nameM s.name
  else if eqI s.kind 7 = true then first2 (ci (notB (inR s.arg (argB s.kind).1 (argB s.kind).2)) 3) (exprM s.expr)
  else ci (notB (inR s.arg (argB s.kind).1 (argB s.kind).2)) 3
/-- stepFault: the code, and the parents behind it. -/
def stepM (s : Step) (list deep : List Int) : Int :=
  if notB (eqI (stepA s list deep) 0) = true then stepA s list deep
  else if notB (eqI (ci (ltI 7 (nextDeep deep s.parent)) 2) 0) = true then ci (ltI 7 (nextDeep deep s.parent)) 2
  else stepB s

set_option maxHeartbeats 2000000 in
theorem f_stepFault (s : Step) (list deep : List Int) (hp1 : -9223372036854775808 ≤ s.parent) (hp2 : s.parent < 9223372036854775808) (ht : Tree list) (hl : list.length ≤ 1000) (hd : deep.length = list.length)
    (hv : ∀ d, d ∈ deep → 0 ≤ d ∧ d ≤ 1000000) (hn : s.name.size < 2 ^ 62) (hx : s.expr.length < 2 ^ 62) :
    fo 104 [A (.agg (sT 201 s)), argP1 list deep] = some ⟨vI (stepM s list deep), outP1 (nextM list deep s.parent).2.1 (nextM list deep s.parent).2.2, true⟩ := by
  have g1 := f_next list deep s.parent hp1 hp2 ht hl hd hv
  have g3 := f_NameFault s.name hn
  have g4 := f_ExprFault s.expr hx
  refine orc_104 1 ?_
  cases c1 : eqI (stepA s list deep) 0
  · simp only [stepA, alien, emp] at c1
    simp (maxSteps := 1000000) +contextual -dsimp [Tryz.f104, f_argBounds, f_inRange, f_ci, f_first2, g1, c1, stepM, stepA, alien, emp, List.set]
  · have hz : stepA s list deep = 0 := by simpa [eqI] using c1
    have hnx : nextM list deep s.parent = (0, list ++ [s.parent], deep ++ [nextDeep deep s.parent]) := by
      have h1 := (first2_zero hz).2
      unfold nextM at h1 ⊢
      split at h1
      · simp at h1
      · rename_i d1
        rw [if_neg d1]
        split at h1
        · simp at h1
        · rename_i d2
          rw [if_neg d2]
    have g2 := f_last (list ++ [s.parent]) deep (nextDeep deep s.parent) (by omega)
    simp only [argP, outP, pR, iE, List.map_append, List.map_cons, List.map_nil] at g2
    simp only [stepA, alien, emp] at c1
    rw [hnx] at g1 c1
    simp only at g1 c1
    cases c2 : eqI (ci (ltI 7 (nextDeep deep s.parent)) 2) 0
    rotate_left
    · cases c3 : eqI s.kind 2
      · cases c4 : eqI s.kind 7
        · simp (maxSteps := 1000000) +contextual -dsimp [Tryz.f104, f_argBounds, f_inRange, f_ci, f_first2, g1, g2, c2, c3, c4, hnx, stepM, stepB, stepA, alien, emp, List.set]
        · simp (maxSteps := 1000000) +contextual -dsimp [Tryz.f104, f_argBounds, f_inRange, f_ci, f_first2, g1, g2, g4, c2, c3, c4, hnx, stepM, stepB, stepA, alien, emp, List.set]
      · simp (maxSteps := 1000000) +contextual -dsimp [Tryz.f104, f_argBounds, f_inRange, f_ci, f_first2, g1, g2, g3, c2, c3, hnx, stepM, stepB, stepA, alien, emp, List.set]
    · simp (maxSteps := 1000000) +contextual -dsimp [Tryz.f104, f_argBounds, f_inRange, f_ci, f_first2, g1, g2, c1, c2, hnx, stepM, stepA, alien, emp, List.set]
end Go.TM.Lr

namespace Go.TM.Lr
open Go Go.TM Go.Proofs
set_option maxRecDepth 20000
attribute [local congr] gif_cg
attribute [local simp] footOf noClash clash upsets setsHit setHits layHits layMeets setsMeet evFeet

/-! ### the other side: small ones -/
theorem f_l4Leaf (k : Int) : fo 43 [A (vI k)] = some (R (vB (orB (orB (eqI k 2) (eqI k 5)) (eqI k 6)))) := by
  refine orc_43 1 ?_
  simp +contextual -dsimp [Tryz.f43]

def manyM (k n : Int) : Bool := if eqI k 1 = true then leI 1 n else if orB (eqI k 3) (eqI k 4) = true then leI 2 n else if eqI k 8 = true then eqI n 2 else eqI n 0

theorem f_l4Many (k n : Int) : fo 125 [A (vI k), A (vI n)] = some (R (vB (manyM k n))) := by
  refine orc_125 1 ?_
  cases h5 : eqI k 1
  · cases h6 : eqI k 3
    · cases h8 : eqI k 4
      · cases h7 : eqI k 8
        · simp -dsimp [Tryz.f125, h5, h6, h8, h7, manyM]
        · simp -dsimp [Tryz.f125, h5, h6, h8, h7, manyM]
      · simp -dsimp [Tryz.f125, h5, h6, h8, manyM]
    · simp -dsimp [Tryz.f125, h5, h6, manyM]
  · simp -dsimp [Tryz.f125, h5, manyM]

def kids4M (at_ : Int) : Nat → List Step → List Int
  | _, [] => []
  | i, s :: r => if eqI s.parent at_ = true then (i : Int) :: kids4M at_ (i + 1) r else kids4M at_ (i + 1) r

theorem loop40 (all : List Step) (hall : all.length ≤ 1000) (at_ : Int) : ∀ (rest : List Step) (i : Nat) (acc : List Int), all.drop i = rest → acc.length ≤ i →
    evLoop E (orc E) (101 : Nat) (rest.length + 1) (loopOf Tryz.f101 0) ⟨26, [(0, .sl 99 (all.map (sT 201))), (1, vI at_), (5, .ref 5 1 [] 0 acc.length), (6, vI i)], [(5, ⟨1, 1, false, [.own 2 (iE acc)]⟩)], 2⟩ =
    some (.exit 0, ⟨26, [(0, .sl 99 (all.map (sT 201))), (1, vI at_), (5, .ref 5 1 [] 0 (acc ++ kids4M at_ i rest).length), (6, vI (i + rest.length : Nat)), (11, vB false)], [(5, ⟨1, 1, false, [.own 2 (iE (acc ++ kids4M at_ i rest))]⟩)], 2⟩)
  | [], i, acc, h, ha => by
    have hge : all.length ≤ i := by simpa using h
    have hlt : ltI (i : Int) (all.length : Int) = false := ltI_f (by omega)
    rw [loop_eq]
    simp +contextual -dsimp [Tryz.f101, hlt, kids4M]
  | s :: rest, i, acc, h, ha => by
    obtain ⟨hi, hc, hr⟩ := drop_cons h
    have hlt : ltI (i : Int) (all.length : Int) = true := ltI_t (by omega)
    have hw : IntKind.i64.wrap ((i : Int) + 1) = ((i + 1 : Nat) : Int) := by rw [wrapI] <;> omega
    have he : i + 1 + rest.length = i + (rest.length + 1) := by omega
    have hm1 : acc.length + 1 ≤ maxElems := by unfold maxElems; omega
    cases c : eqI s.parent at_
    · have ih := loop40 all hall at_ rest (i + 1) acc hr (by omega)
      rw [he] at ih
      have hm : kids4M at_ i (s :: rest) = kids4M at_ (i + 1) rest := by simp [kids4M, c]
      rw [hm]
      refine evLoop_next ?_ (by simpa only [List.length_cons] using ih)
      simp (maxSteps := 1000000) +contextual -dsimp [Tryz.f101, hlt, hi, hc, hw, c]
    · have ih := loop40 all hall at_ rest (i + 1) (acc ++ [(i : Int)]) hr (by simp; omega)
      rw [he] at ih
      have hm : acc ++ kids4M at_ i (s :: rest) = acc ++ [(i : Int)] ++ kids4M at_ (i + 1) rest := by simp [kids4M, c]
      rw [hm]
      refine evLoop_next ?_ (by simpa only [List.length_cons] using ih)
      simp (maxSteps := 1000000) +contextual -dsimp [Tryz.f101, hlt, hi, hc, hw, c, hm1, List.set]

theorem f_l4Kids (l : List Step) (hl : l.length ≤ 1000) (at_ : Int) : fo 101 [A (.sl 99 (l.map (sT 201))), A (vI at_)] = some ⟨.own 2 (iE (kids4M at_ 0 l)), [], true⟩ := by
  have hlp := loop40 l hl at_ l 0 [] rfl (by simp)
  have hc : cleanEs (iE (kids4M at_ 0 l)) = true := by
    have : ∀ (l : List Int), cleanEs (iE l) = true := fun l => by induction l <;> simp_all [cleanEs, cleanL, clean]
    exact this _
  refine orc_101 (l.length + 1) ?_
  simp -dsimp [Tryz.f101] at hlp
  simp (maxSteps := 1000000) +contextual -dsimp [Tryz.f101, hlp, hc]
end Go.TM.Lr

namespace Go.TM.Lr
open Go Go.TM Go.Proofs
set_option maxRecDepth 20000
attribute [local congr] gif_cg
attribute [local simp] footOf noClash clash upsets setsHit setHits layHits layMeets setsMeet evFeet

/-- The parents of the first steps lie ahead of them. -/
def Ahead (l : List Step) (m : Nat) : Prop := ∀ (k : Nat) (h : k < l.length), k < m → -1 ≤ (l[k]).parent ∧ (l[k]).parent < k

def lineM (l : List Step) (p : Int) : Nat → Int → Bool
  | 0, _ => false
  | f + 1, at_ => if leI 0 at_ = true then (if eqI at_ p = true then true else lineM l p f (parOf l at_.toNat)) else false

theorem loop34 (l : List Step) (i : Nat) (hi : i < l.length) (ha : Ahead l i) : ∀ (f : Nat) (at_ : Int), -1 ≤ at_ → at_ < f → at_ < i →
    evLoop E (orc E) (120 : Nat) (f + 1) (loopOf Tryz.f120 0) ⟨22, [(0, .sl 99 (l.map (sT 201))), (1, vI i), (5, vI at_)], [], 2⟩ =
    (if lineM l (parOf l i) (f + 1) at_ = true then some (.ret, ⟨22, [(4, vB true)], [], 2⟩) else some (.exit 0, ⟨22, [(0, .sl 99 (l.map (sT 201))), (1, vI i), (5, vI (-1)), (9, vB false)], [], 2⟩))
  | 0, at_, h1, h2, h3 => by
    have e : at_ = -1 := by omega
    subst e
    have hle : leI 0 (-1) = false := rfl
    rw [loop_eq]
    simp +contextual -dsimp [Tryz.f120, hle, lineM]
  | f + 1, at_, h1, h2, h3 => by
    cases hle : leI 0 at_
    · have e : at_ = -1 := by simp [leI] at hle; omega
      subst e
      rw [loop_eq]
      simp +contextual -dsimp [Tryz.f120, hle, lineM]
    · obtain ⟨k, rfl⟩ := Int.eq_ofNat_of_zero_le (show 0 ≤ at_ by simpa [leI] using hle)
      have hk : k < l.length := by omega
      have hp : (l[i]).parent = parOf l i := by simp [parOf, hi]
      have hpk : (l[k]).parent = parOf l k := by simp [parOf, hk]
      obtain ⟨q1, q2⟩ := ha k hk (by omega)
      rw [hpk] at q1 q2
      cases c : eqI (k : Int) (parOf l i)
      · have ih := loop34 l i hi ha f (parOf l k) q1 (by omega) (by omega)
        have hm : lineM l (parOf l i) (f + 1 + 1) k = lineM l (parOf l i) (f + 1) (parOf l k) := by simp [lineM, hle, c]
        rw [hm]
        refine evLoop_next ?_ ih
        simp (maxSteps := 1000000) +contextual -dsimp [Tryz.f120, hle, hi, hk, hp, hpk, c]
      · have hm : lineM l (parOf l i) (f + 1 + 1) k = true := by simp [lineM, hle, c]
        rw [hm, if_pos rfl]
        refine evLoop_out ?_ (by simp)
        simp (maxSteps := 1000000) +contextual -dsimp [Tryz.f120, hle, hi, hp, c]

theorem f_l4Line (l : List Step) (hl : l.length ≤ 1000) (i : Nat) (hi : i < l.length) (ha : Ahead l i) : fo 120 [A (.sl 99 (l.map (sT 201))), A (vI i)] = some (R (vB (lineM l (parOf l i) (i + 1) ((i : Int) - 1)))) := by
  have hlp := loop34 l i hi ha i ((i : Int) - 1) (by omega) (by omega) (by omega)
  have hw : IntKind.i64.wrap ((i : Int) - 1) = (i : Int) - 1 := by rw [wrapI] <;> omega
  refine orc_120 (i + 1) ?_
  simp -dsimp [Tryz.f120] at hlp
  cases c : lineM l (parOf l i) (i + 1) ((i : Int) - 1)
  · simp (maxSteps := 1000000) +contextual -dsimp [Tryz.f120, hlp, hw, c]
  · simp (maxSteps := 1000000) +contextual -dsimp [Tryz.f120, hlp, hw, c]

/-! ### names, the other way -/
theorem loop36 (s : ByteArray) (hs : s.size < 2 ^ 62) : ∀ (rest : List UInt8) (i : Nat), s.data.toList.drop i = rest →
    evLoop E (orc E) (122 : Nat) (rest.length + 1) (loopOf Tryz.f122 0) ⟨25, [(0, vS s), (3, vI i)], [], 2⟩ =
    (if smalls rest = true then some (.exit 0, ⟨25, [(0, vS s), (3, vI (i + rest.length : Nat)), (7, vB false)], [], 2⟩) else some (.ret, ⟨25, [(2, vI 5)], [], 2⟩))
  | [], i, h => by
    have hge : s.size ≤ i := by rw [← size_list]; exact List.drop_eq_nil_iff.1 h
    have hlt : ltI (i : Int) (s.size : Int) = false := ltI_f (by omega)
    rw [loop_eq]
    simp +contextual -dsimp [Tryz.f122, hlt, smalls]
  | b :: rest, i, h => by
    obtain ⟨hi, hb, hr⟩ := byte_at h
    have hlt : ltI (i : Int) (s.size : Int) = true := ltI_t (by omega)
    have hw : IntKind.i64.wrap ((i : Int) + 1) = ((i + 1 : Nat) : Int) := by rw [wrapI] <;> omega
    have hx := pr_idx s i b (by omega) (by simpa using hb)
    have hin : inR b.toNat 97 122 = notB (orB (ltI b.toNat 97) (ltI 122 b.toNat)) := by
      simp only [inR, andB, orB, notB, leI, ltI, Bool.not_or]
      congr 1 <;> (rw [← decide_not]; congr 1; simp)
    cases c : orB (ltI b.toNat 97) (ltI 122 b.toNat)
    · have hm : smalls (b :: rest) = smalls rest := by simp [smalls, hin, c, notB]
      have ih := loop36 s hs rest (i + 1) hr
      have he : i + 1 + rest.length = i + (rest.length + 1) := by omega
      rw [he] at ih
      rw [hm]
      refine evLoop_next ?_ (by simpa only [List.length_cons] using ih)
      simp (maxSteps := 1000000) +contextual -dsimp [Tryz.f122, hlt, hx, hw, c]
    · have hm : smalls (b :: rest) = false := by simp [smalls, hin, c, notB]
      rw [hm, if_neg (by simp)]
      refine evLoop_out ?_ (by simp)
      simp (maxSteps := 1000000) +contextual -dsimp [Tryz.f122, hlt, hx, c]

def name4M (s : ByteArray) : Int := if smalls s.data.toList = true then (if eqS s emp = true then 5 else if ltI 8 s.size = true then 2 else 0) else 5

theorem f_l1Name (s : ByteArray) (hs : s.size < 2 ^ 62) : fo 122 [A (vS s)] = some (R (vI (name4M s))) := by
  have hlp := loop36 s hs s.data.toList 0 rfl
  refine orc_122 (s.data.toList.length + 1) ?_
  simp -dsimp [Tryz.f122] at hlp
  cases c : smalls s.data.toList
  · simp (maxSteps := 1000000) +contextual -dsimp [Tryz.f122, hlp, c, name4M]
  · simp (maxSteps := 1000000) +contextual -dsimp [Tryz.f122, hlp, c, name4M]
end Go.TM.Lr
