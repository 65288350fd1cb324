/- What functions of the program come to, by the machine. -/
import Derived.Test.YtlmiemdojgahaaaGreatSL1
set_option linter.unusedSimpArgs false
set_option linter.unusedVariables false
namespace Go.TM.Ft
open Go Go.TM Go.Proofs
set_option maxRecDepth 20000
attribute [local congr] gif_cg
attribute [local simp] footOf noClash clash upsets setsHit setHits layHits layMeets setsMeet evFeet
def badT (n:Node) (types:List Int):Bool:=
 orB (andB (ltI 2 n.kind) (notB (eqI (szAt types n.left) (partB n.kind).1))) (andB (inR n.kind 3 9) (notB (eqI (szAt types n.right) (partB n.kind).1)))
def typesM:List Node→List Int→Bool × List Int
 | [],acc=>(true,acc)
 | n::r,acc=>if badT n acc=true then (false,acc) else typesM r (acc++[(partB n.kind).2])
abbrev res52 (a b:Int):Root:=⟨1,1,true,[vI a,vI b]⟩
set_option maxHeartbeats 1000000 in
theorem loop52 (all : List Node) (hall : all.length ≤ 16) : ∀ (rest : List Node) (i : Nat) (acc : List Int), all.drop i = rest → acc.length = i →
    (∀ (k : Nat) (n : Node), rest[k]? = some n → ltI 2 n.kind = true → (0 ≤ n.left ∧ n.left < (i + k : Nat)) ∧ (inR n.kind 3 9 = true → 0 ≤ n.right ∧ n.right < (i + k : Nat))) →
    evLoop E (orc E) (279 : Nat) (rest.length + 1) (loopOf Tryz.f279 0) ⟨67, [(2, .ptr 2 1 [] 0), (4, .ref 4 1 [] 0 acc.length), (16, nS 219 all), (17, vI all.length), (18, vI i)], [(2, res52 0 0), (4, ⟨1, 1, false, [.own 2 (iE acc)]⟩)], 2⟩ =
    (if (typesM rest acc).1 = true then some (.exit 0, ⟨67, [(2, .ptr 2 1 [] 0), (4, .ref 4 1 [] 0 (typesM rest acc).2.length), (16, nS 219 all), (17, vI all.length), (18, vI (i + rest.length : Nat)), (19, vB false)], [(2, res52 0 0), (4, ⟨1, 1, false, [.own 2 (iE (typesM rest acc).2)]⟩)], 2⟩)
     else some (.ret, ⟨67, [(2, .ptr 2 1 [] 0)], [(2, res52 7 0), (4, ⟨1, 1, false, [.own 2 (iE (typesM rest acc).2)]⟩)], 2⟩))
  | [], i, acc, h, hs, ho => by
    have hge : all.length ≤ i := by simpa using h
    have hlt : ltI (i : Int) (all.length : Int) = false := ltI_f (by omega)
    rw [loop_eq]
    simp +contextual -dsimp [Tryz.f279, hlt, typesM]
  | n :: rest, i, acc, h, hs, ho => by
    obtain ⟨hi, hc, hr⟩ := drop_cons h
    have hlt : ltI (i : Int) (all.length : Int) = true := ltI_t (by omega)
    have hw : IntKind.i64.wrap ((i : Int) + 1) = ((i + 1 : Nat) : Int) := by rw [wrapI] <;> omega
    have he : i + 1 + rest.length = i + (rest.length + 1) := by omega
    have hm1 : acc.length + 1 ≤ maxElems := by unfold maxElems; omega
    have ih := loop52 all hall rest (i + 1) (acc ++ [(partB n.kind).2]) hr (by simp; omega) (fun k m hk => by
      have := ho (k + 1) m (by simpa using hk)
      have e : i + 1 + k = i + (k + 1) := by omega
      rw [e]; exact this)
    rw [he] at ih
    have ho' := ho 0 n (by simp)
    have step : (badT n acc = false → evCode E (orc E) (279 : Nat) (evLoop E (orc E) (279 : Nat) (rest.length + 1)) (loopOf Tryz.f279 0) ⟨67, [(2, .ptr 2 1 [] 0), (4, .ref 4 1 [] 0 acc.length), (16, nS 219 all), (17, vI all.length), (18, vI i)], [(2, res52 0 0), (4, ⟨1, 1, false, [.own 2 (iE acc)]⟩)], 2⟩ =
        some (.normal, ⟨67, [(2, .ptr 2 1 [] 0), (4, .ref 4 1 [] 0 (acc ++ [(partB n.kind).2]).length), (16, nS 219 all), (17, vI all.length), (18, vI (i + 1 : Nat))], [(2, res52 0 0), (4, ⟨1, 1, false, [.own 2 (iE (acc ++ [(partB n.kind).2]))]⟩)], 2⟩)) ∧
        (badT n acc = true → evCode E (orc E) (279 : Nat) (evLoop E (orc E) (279 : Nat) (rest.length + 1)) (loopOf Tryz.f279 0) ⟨67, [(2, .ptr 2 1 [] 0), (4, .ref 4 1 [] 0 acc.length), (16, nS 219 all), (17, vI all.length), (18, vI i)], [(2, res52 0 0), (4, ⟨1, 1, false, [.own 2 (iE acc)]⟩)], 2⟩ =
        some (.ret, ⟨67, [(2, .ptr 2 1 [] 0)], [(2, res52 7 0), (4, ⟨1, 1, false, [.own 2 (iE acc)]⟩)], 2⟩)) := by
      unfold badT
      cases c1 : ltI 2 n.kind
      · have c2 : inR n.kind 3 9 = false := by simp [ltI, inR, andB, leI] at c1 ⊢; omega
        refine ⟨fun _ => ?_, fun hb => by rw [c2] at hb; simp [orB, andB] at hb⟩
        simp (maxSteps := 1000000) +contextual -dsimp [Tryz.f279, f_isTwo, f_partType, hlt, hi, hc, hw, hm1, c1, c2, List.set]
      · obtain ⟨⟨p1, p2⟩, p3⟩ := ho' c1
        obtain ⟨l, hl⟩ := Int.eq_ofNat_of_zero_le p1
        have hl2 : l < acc.length := by omega
        have e1 : szAt acc (l : Int) = acc[l] := by simp [szAt, hl2]
        rw [hl, e1]
        cases c2 : inR n.kind 3 9
        · refine ⟨fun hb => ?_, fun hb => ?_⟩
          all_goals
            simp only [andB_tl, andB_fl, orB_fr] at hb
            simp (maxSteps := 1000000) +contextual -dsimp [Tryz.f279, f_isTwo, f_partType, hlt, hi, hc, hw, hm1, c1, c2, hl, hl2, hb, List.set]
        · obtain ⟨p4, p5⟩ := p3 c2
          obtain ⟨r, hr'⟩ := Int.eq_ofNat_of_zero_le p4
          have hr2 : r < acc.length := by omega
          have e2 : szAt acc (r : Int) = acc[r] := by simp [szAt, hr2]
          rw [hr', e2]
          refine ⟨fun hb => ?_, fun hb => ?_⟩
          all_goals
            simp only [andB_tl] at hb
            simp (maxSteps := 1000000) +contextual -dsimp [Tryz.f279, f_isTwo, f_partType, hlt, hi, hc, hw, hm1, c1, c2, hl, hl2, hr', hr2, hb, List.set]
    cases cb : badT n acc
    · have hm : typesM (n :: rest) acc = typesM rest (acc ++ [(partB n.kind).2]) := by simp [typesM, cb]
      rw [hm]
      exact evLoop_next (step.1 cb) (by simpa only [List.length_cons] using ih)
    · have hm : typesM (n :: rest) acc = (false, acc) := by simp [typesM, cb]
      rw [hm, if_neg (by simp)]
      exact evLoop_out (step.2 cb) (by simp)
theorem types_len:∀ (l:List Node) (acc:List Int),(typesM l acc).1=true→(typesM l acc).2.length=acc.length+l.length
 | [],acc,_=>by simp [typesM]
 | n::l,acc,h=>by
  unfold typesM at h ⊢
  split at h
  ·simp at h
  ·rename_i hc
   rw [if_neg hc]
   rw [types_len l _ h]; simp; omega
abbrev RI (c v:Int):Res:=⟨.agg [vI c,vI v],[],true⟩
def typeM (l:List Node):Int × Int:=
 if notB (eqI (exprM l) 0)=true then (exprM l,0)
 else if (typesM l []).1=true then (0,szAt (typesM l []).2 (l.length - 1)) else (7,0)
theorem okNode_types {n:Node} {i:Nat} (h:okNode n i) (hk:nodeFaultM n i=0) (h2:ltI 2 n.kind=true):(0≤n.left∧n.left < (i:Nat))∧(inR n.kind 3 9=true→0≤n.right∧n.right < (i:Nat)):=by
 obtain ⟨h10,h39⟩:=h
 have g2:2 < n.kind:=by simpa [ltI] using h2
 by_cases e10:n.kind=10
 ·have a:=h10 (by simp [eqI,e10])
  exact ⟨a,fun hc=>by simp [inR,andB,leI] at hc; omega⟩
 ·have f10:eqI n.kind 10=false:=by simp [eqI,e10]
  by_cases e39:inR n.kind 3 9=true
  ·obtain ⟨a,b,c,d⟩:=h39 f10 e39
   exact ⟨⟨a,b⟩,fun _=>⟨c,d⟩⟩
  ·exfalso
   unfold nodeFaultM at hk
   rw [if_neg (by simp [orB,eqI]; omega),if_neg (by rw [f10]; simp),if_neg e39] at hk
   simp at hk
theorem nodes_all:∀ {l:List Node} {i:Nat},nodesM i l=0→∀ (k:Nat) (n:Node),l[k]?=some n→nodeFaultM n (i+k:Nat)=0
 | [],i,_,k,n,h=>by simp at h
 | x::l,i,hz,k,n,h=>by
  unfold nodesM at hz
  split at hz
  ·rename_i hc
   rw [hz] at hc; simp [notB,eqI] at hc
  ·rename_i hc
   have h0:nodeFaultM x i=0:=by simpa [notB,eqI] using hc
   cases k with
   | zero=>simp at h; subst h; exact h0
   | succ k=>
    have:=nodes_all hz k n (by simpa using h)
    have e:i+1+k=i+(k+1):=by omega
    rw [← e]; exact this
theorem expr_zero {l:List Node} (h:exprM l=0):1≤l.length∧l.length≤16∧nodesM 0 l=0:=by
 unfold exprM at h
 split at h
 ·simp at h
 ·rename_i c1
  split at h
  ·rename_i c2; rw [h] at c2; simp [notB,eqI] at c2
  ·rename_i c2
   simp [notB,inR,andB,leI] at c1
   simp [notB,eqI] at c2
   omega
theorem f_TypeOf (l:List Node) (hl:l.length < 2 ^ 62):fo 279 [A (nS 219 l)]=some (RI (typeM l).1 (typeM l).2):=by
 have g:=f_ExprFault l hl
 cases c1:eqI (exprM l) 0
 ·refine orc_279 1 ?_
  simp (maxSteps:=1000000) +contextual -dsimp [Tryz.f279,g,c1,typeM,List.set]
 ·obtain ⟨h1,h2,h3⟩:=expr_zero (by simpa [eqI] using c1)
  have e0:exprM l=0:=by simpa [eqI] using c1
  have hlp:=loop52 l h2 l 0 [] rfl rfl (fun k n hk h2=>by
   simpa using okNode_types (nodes_ok h3 k n hk) (nodes_all h3 k n hk) h2)
  refine orc_279 (l.length+1) ?_
  simp -dsimp [Tryz.f279] at hlp
  cases c2:(typesM l []).1
  ·rw [c2] at hlp
   simp (maxSteps:=1000000) +contextual -dsimp [Tryz.f279,g,e0,c2,hlp,typeM,eqI_self,List.set]
  ·rw [c2] at hlp
   have hlen:=types_len l [] c2
   simp at hlen
   have hlt:l.length - 1 < (typesM l []).2.length:=by omega
   have hlt2:l.length - 1 < l.length:=by omega
   have hw:IntKind.i64.wrap ((l.length:Int) - 1)=((l.length - 1:Nat):Int):=by rw [wrapI] <;> omega
   have e1:szAt (typesM l []).2 ((l.length:Int) - 1)=(typesM l []).2[l.length - 1]:=by
    have:((l.length:Int) - 1).toNat=l.length - 1:=by omega
    simp [szAt,this,hlt]
   simp (maxSteps:=1000000) +contextual -dsimp [Tryz.f279,g,e0,c2,hlp,hlen,hw,hlt2,e1,typeM,eqI_self,List.set]
end Go.TM.Ft
namespace Go.TM.Ft
open Go Go.TM Go.Proofs
set_option maxRecDepth 20000
attribute [local congr] gif_cg
attribute [local simp] footOf noClash clash upsets setsHit setHits layHits layMeets setsMeet evFeet
theorem f_last (list deep:List Int) (d:Int) (hd:deep.length≤1000000):fo 274 [argP list (deep++[d])]=some ⟨vI d,outP list (deep++[d]),true⟩:=by
 have hw:IntKind.i64.wrap (deep.length:Int)=(deep.length:Int):=by rw [wrapI] <;> omega
 have hlt:(deep.length:Int) < (deep.length:Int)+1:=by omega
 refine orc_274 1 ?_
 simp (maxSteps:=1000000) +contextual -dsimp [Tryz.f274,hw,hlt]
def kidsM (at_:Int):Nat→List Step→List Int
 | _,[]=>[]
 | i,s::r=>if andB (ltI 0 (i:Int)) (eqI s.parent at_)=true then (i:Int)::kidsM at_ (i+1) r else kidsM at_ (i+1) r
theorem loop50 (all:List Step) (hall:all.length≤1000) (at_:Int):∀ (rest:List Step) (i:Nat) (acc:List Int),all.drop i=rest→acc.length≤i→
  evLoop E (orc E) (199:Nat) (rest.length+1) (loopOf Tryz.f199 0) ⟨30,[(1,vI at_),(5,.ref 5 1 [] 0 acc.length),(9,.sl 124 (all.map (sT 219))),(10,vI all.length),(11,vI i)],[(5,⟨1,1,false,[.own 2 (iE acc)]⟩)],2⟩=
  some (.exit 0,⟨30,[(1,vI at_),(5,.ref 5 1 [] 0 (acc++kidsM at_ i rest).length),(9,.sl 124 (all.map (sT 219))),(10,vI all.length),(11,vI (i+rest.length:Nat)),(12,vB false)],[(5,⟨1,1,false,[.own 2 (iE (acc++kidsM at_ i rest))]⟩)],2⟩)
 | [],i,acc,h,ha=>by
  have hge:all.length≤i:=by simpa using h
  have hlt:ltI (i:Int) (all.length:Int)=false:=ltI_f (by omega)
  rw [loop_eq]
  simp +contextual -dsimp [Tryz.f199,hlt,kidsM]
 | s::rest,i,acc,h,ha=>by
  obtain ⟨hi,hc,hr⟩:=drop_cons h
  have hlt:ltI (i:Int) (all.length:Int)=true:=ltI_t (by omega)
  have hw:IntKind.i64.wrap ((i:Int)+1)=((i+1:Nat):Int):=by rw [wrapI] <;> omega
  have he:i+1+rest.length=i+(rest.length+1):=by omega
  have hm1:acc.length+1≤maxElems:=by unfold maxElems; omega
  cases c:andB (ltI 0 (i:Int)) (eqI s.parent at_)
  ·have ih:=loop50 all hall at_ rest (i+1) acc hr (by omega)
   rw [he] at ih
   have hm:kidsM at_ i (s::rest)=kidsM at_ (i+1) rest:=by simp [kidsM,c]
   rw [hm]
   refine evLoop_next ?_ (by simpa only [List.length_cons] using ih)
   simp (maxSteps:=1000000) +contextual -dsimp [Tryz.f199,hlt,hi,hc,hw,c,List.set]
  ·have ih:=loop50 all hall at_ rest (i+1) (acc++[(i:Int)]) hr (by simp; omega)
   rw [he] at ih
   have hm:acc++kidsM at_ i (s::rest)=acc++[(i:Int)]++kidsM at_ (i+1) rest:=by simp [kidsM,c]
   rw [hm]
   refine evLoop_next ?_ (by simpa only [List.length_cons] using ih)
   simp (maxSteps:=1000000) +contextual -dsimp [Tryz.f199,hlt,hi,hc,hw,c,hm1,List.set]
theorem f_kids (l:List Step) (hl:l.length≤1000) (at_:Int):fo 199 [A (.sl 124 (l.map (sT 219))),A (vI at_)]=some ⟨.own 2 (iE (kidsM at_ 0 l)),[],true⟩:=by
 have hlp:=loop50 l hl at_ l 0 [] rfl (by simp)
 have hc:cleanEs (iE (kidsM at_ 0 l))=true:=by
  have:∀ (l:List Int),cleanEs (iE l)=true:=fun l=>by induction l <;> simp_all [cleanEs,cleanL,clean]
  exact this _
 refine orc_199 (l.length+1) ?_
 simp -dsimp [Tryz.f199] at hlp
 simp (maxSteps:=1000000) +contextual -dsimp [Tryz.f199,hlp,hc]
end Go.TM.Ft
namespace Go.TM.Ft
open Go Go.TM Go.Proofs
set_option maxRecDepth 20000
attribute [local congr] gif_cg
attribute [local simp] footOf noClash clash upsets setsHit setHits layHits layMeets setsMeet evFeet
def parOf (l:List Step) (at_:Nat):Int:=match l[at_]? with | some s=>s.parent | none=>0
def kindOf (l:List Step) (at_:Int):Int:=match l[at_.toNat]? with | some s=>s.kind | none=>0
def wantsM (l:List Step) (at_:Nat):Bool:=
 if orB (eqI at_ 0) (notB (eqI (kindOf l (parOf l at_)) 3))=true then false
 else notB (eqI at_ (szAt (kidsM (parOf l at_) 0 l) ((kidsM (parOf l at_) 0 l).length - 1)))
theorem kids_mem {p:Int}:∀ {l:List Step} {i k:Nat} {s:Step},l[k]?=some s→0 < i+k→s.parent=p→((i+k:Nat):Int)∈kidsM p i l
 | [],i,k,s,h,_,_=>by simp at h
 | x::l,i,0,s,h,h0,hp=>by
  simp at h; subst h
  have:andB (ltI 0 (i:Int)) (eqI x.parent p)=true:=by simp [andB,ltI,eqI,hp]; omega
  simp [kidsM,this]
 | x::l,i,k+1,s,h,h0,hp=>by
  have:=kids_mem (i:=i+1) (k:=k) (by simpa using h) (by omega) hp
  have e:i+1+k=i+(k+1):=by omega
  rw [e] at this
  unfold kidsM
  split
  ·exact List.mem_cons_of_mem _ this
  ·exact this
theorem f_wantsCond (l:List Step) (hl:l.length≤1000) (at_:Nat) (ha:at_ < l.length) (hp:0 < at_→0≤parOf l at_∧parOf l at_ < l.length):
  fo 278 [A (.sl 124 (l.map (sT 219))),A (vI at_)]=some (R (vB (wantsM l at_))):=by
 have hpar:(l[at_]).parent=parOf l at_:=by simp [parOf,ha]
 refine orc_278 1 ?_
 cases c1:eqI at_ 0
 ·have h0:0 < at_:=by simp [eqI] at c1; omega
  obtain ⟨p1,p2⟩:=hp h0
  obtain ⟨k,hk⟩:=Int.eq_ofNat_of_zero_le p1
  have hk2:k < l.length:=by omega
  have hkind:(l[k]).kind=kindOf l (k:Int):=by simp [kindOf,hk2]
  rw [hk] at hpar
  cases c2:eqI (kindOf l (k:Int)) 3
  ·simp (maxSteps:=1000000) +contextual -dsimp [Tryz.f278,ha,hpar,hk,hk2,hkind,c1,c2,wantsM]
  ·have g:=f_kids l hl (k:Int)
   have hm:((0+at_:Nat):Int)∈kidsM (k:Int) 0 l:=kids_mem (k:=at_) (s:=l[at_]) (by simp [ha]) (by omega) hpar
   have hpos:0 < (kidsM (k:Int) 0 l).length:=List.length_pos_of_mem hm
   have hkl:(kidsM (k:Int) 0 l).length≤1000:=by
    have:∀ (l:List Step) (i:Nat),(kidsM (k:Int) i l).length≤l.length:=fun l=>by
     induction l with
     | nil=>intro i; simp [kidsM]
     | cons s l ih=>intro i; unfold kidsM; split <;> simp <;> have:=ih (i+1) <;> omega
    have:=this l 0; omega
   have hw:IntKind.i64.wrap (((kidsM (k:Int) 0 l).length:Int) - 1)=(((kidsM (k:Int) 0 l).length - 1:Nat):Int):=by rw [wrapI] <;> omega
   have hlt:(kidsM (k:Int) 0 l).length - 1 < (kidsM (k:Int) 0 l).length:=by omega
   have e1:szAt (kidsM (k:Int) 0 l) (((kidsM (k:Int) 0 l).length:Int) - 1)=(kidsM (k:Int) 0 l)[(kidsM (k:Int) 0 l).length - 1]:=by
    have:(((kidsM (k:Int) 0 l).length:Int) - 1).toNat=(kidsM (k:Int) 0 l).length - 1:=by omega
    simp [szAt,this,hlt]
   have hse:sealEs (iE (kidsM (k:Int) 0 l))=iE (kidsM (k:Int) 0 l):=sealEs_map (f:=fun n=>[vI n]) (g:=fun n=>[vI n]) (fun a=>by simp [sealL,seal_]) _
   simp (maxSteps:=1000000) +contextual -dsimp [Tryz.f278,ha,hpar,hk,hk2,hkind,c1,c2,g,hse,hw,hlt,e1,wantsM]
 ·simp (maxSteps:=1000000) +contextual -dsimp [Tryz.f278,ha,hpar,c1,wantsM]
end Go.TM.Ft
namespace Go.TM.Ft
open Go Go.TM Go.Proofs
set_option maxRecDepth 20000
attribute [local congr] gif_cg
attribute [local simp] footOf noClash clash upsets setsHit setHits layHits layMeets setsMeet evFeet
def typeFaultM (l:List Node) (want:Int):Int:=
 if eqI l.length 0=true then 0 else first2 (typeM l).1 (if notB (eqI (typeM l).2 want)=true then 7 else 0)
theorem f_typeFault (l:List Node) (hl:l.length < 2 ^ 62) (want:Int):fo 234 [A (nS 219 l),A (vI want)]=some (R (vI (typeFaultM l want))):=by
 have g:=f_TypeOf l hl
 refine orc_234 1 ?_
 cases c1:eqI l.length 0
 ·simp (maxSteps:=1000000) +contextual -dsimp [Tryz.f234,g,f_codeIf,f_first2,c1,typeFaultM,List.set]
 ·simp (maxSteps:=1000000) +contextual -dsimp [Tryz.f234,c1,typeFaultM]
def hasCond (l:List Step) (at_:Nat):Bool:=match l[at_]? with | some s=>ltI 0 s.cond.length | none=>false
def condOf (l:List Step) (at_:Nat):List Node:=match l[at_]? with | some s=>s.cond | none=>[]
def condCode (l:List Step) (at_:Nat):Int:=
 first2 (if notB (inR (kidsM at_ 0 l).length (kidB (kindOf l at_)).1 (kidB (kindOf l at_)).2)=true then 1 else 0) (if notB (eqB (hasCond l at_) (wantsM l at_))=true then 1 else 0)
def condFaultM (l:List Step) (at_:Nat):Int:=
 if orB (notB (eqI (condCode l at_) 0)) (notB (hasCond l at_))=true then condCode l at_ else exprM (condOf l at_)
theorem f_condFault (l:List Step) (hl:l.length≤1000) (at_:Nat) (ha:at_ < l.length) (hp:0 < at_→0≤parOf l at_∧parOf l at_ < l.length) (hc:(condOf l at_).length < 2 ^ 62):
  fo 233 [A (.sl 124 (l.map (sT 219))),A (vI at_)]=some (R (vI (condFaultM l at_))):=by
 have g1:=f_kids l hl at_
 have g2:=f_wantsCond l hl at_ ha hp
 have g3:=f_ExprFault (condOf l at_) hc
 have hse:sealEs (iE (kidsM at_ 0 l))=iE (kidsM at_ 0 l):=sealEs_map (f:=fun n=>[vI n]) (g:=fun n=>[vI n]) (fun a=>by simp [sealL,seal_]) _
 have e1:(l[at_]).kind=kindOf l at_:=by simp [kindOf,ha]
 have e2:ltI 0 (l[at_]).cond.length=hasCond l at_:=by simp [hasCond,ha]
 have e3:(l[at_]).cond=condOf l at_:=by simp [condOf,ha]
 have e4:ltI 0 (condOf l at_).length=hasCond l at_:=by simp [hasCond,condOf,ha]
 refine orc_233 1 ?_
 simp (maxSteps:=1000000) +contextual -dsimp [Tryz.f233,f_kidBounds,f_inRange,f_codeIf,f_first2,g1,g2,g3,hse,ha,e1,e3,e4,condFaultM,condCode,List.set]
 rfl
end Go.TM.Ft
namespace Go.TM.Ft
open Go Go.TM Go.Proofs
set_option maxRecDepth 20000
attribute [local congr] gif_cg
attribute [local simp] footOf noClash clash upsets setsHit setHits layHits layMeets setsMeet evFeet
abbrev argP1 (list deep:List Int):Arg:=⟨.ptr 1 0 [] 0,some (pR 0 1 list deep)⟩
abbrev outP1 (list deep:List Int):List (Nat × List T):=[(1,[.own 2 (iE list),.own 2 (iE deep)])]
def ci (b:Bool) (c:Int):Int:=if b then c else 0
theorem f_ci (b:Bool) (c:Int):fo 114 [A (vB b),A (vI c)]=some (R (vI (ci b c))):=f_codeIf b c
def alien (s:Step):Bool:=
 orB (orB (andB (notB (eqS s.name emp)) (notB (eqI s.kind 2))) (andB (notB (eqI s.arg 0)) (eqI (argB s.kind).2 0))) (andB (ltI 0 s.expr.length) (notB (eqI s.kind 7)))
def stepA (s:Step) (list deep:List Int):Int:=
 first2 (ci (orB (notB (inR s.kind 1 8)) (alien s)) 1) (nextM list deep s.parent).1
def stepB (s:Step):Int:=
 if eqI s.kind 2=true then nameM s.name
 else if eqI s.kind 7=true then first2 (ci (notB (inR s.arg (argB s.kind).1 (argB s.kind).2)) 3) (exprM s.expr)
 else ci (notB (inR s.arg (argB s.kind).1 (argB s.kind).2)) 3
def stepM (s:Step) (list deep:List Int):Int:=
 if notB (eqI (stepA s list deep) 0)=true then stepA s list deep
 else if notB (eqI (ci (ltI 7 (nextDeep deep s.parent)) 2) 0)=true then ci (ltI 7 (nextDeep deep s.parent)) 2
 else stepB s
set_option maxHeartbeats 2000000 in
theorem f_stepFault (s:Step) (list deep:List Int) (hp1:-9223372036854775808≤s.parent) (hp2:s.parent < 9223372036854775808) (ht:Tree list) (hl:list.length≤1000) (hd:deep.length=list.length)
  (hv:∀ d,d∈deep→0≤d∧d≤1000000) (hn:s.name.size < 2 ^ 62) (hx:s.expr.length < 2 ^ 62):
  fo 232 [A (.agg (sT 219 s)),argP1 list deep]=some ⟨vI (stepM s list deep),outP1 (nextM list deep s.parent).2.1 (nextM list deep s.parent).2.2,true⟩:=by
 have g1:=f_next list deep s.parent hp1 hp2 ht hl hd hv
 have g3:=f_NameFault s.name hn
 have g4:=f_ExprFault s.expr hx
 refine orc_232 1 ?_
 cases c1:eqI (stepA s list deep) 0
 ·simp only [stepA,alien,emp] at c1
  simp (maxSteps:=1000000) +contextual -dsimp [Tryz.f232,f_argBounds,f_inRange,f_ci,f_first2,g1,c1,stepM,stepA,alien,emp,List.set]
 ·have hz:stepA s list deep=0:=by simpa [eqI] using c1
  have hnx:nextM list deep s.parent=(0,list++[s.parent],deep++[nextDeep deep s.parent]):=by
   have h1:=(first2_zero hz).2
   unfold nextM at h1 ⊢
   split at h1
   ·simp at h1
   ·rename_i d1
    rw [if_neg d1]
    split at h1
    ·simp at h1
    ·rename_i d2
     rw [if_neg d2]
  have g2:=f_last (list++[s.parent]) deep (nextDeep deep s.parent) (by omega)
  simp only [argP,outP,pR,iE,List.map_append,List.map_cons,List.map_nil] at g2
  simp only [stepA,alien,emp] at c1
  rw [hnx] at g1 c1
  simp only at g1 c1
  cases c2:eqI (ci (ltI 7 (nextDeep deep s.parent)) 2) 0
  rotate_left
  ·cases c3:eqI s.kind 2
   ·cases c4:eqI s.kind 7
    ·simp (maxSteps:=1000000) +contextual -dsimp [Tryz.f232,f_argBounds,f_inRange,f_ci,f_first2,g1,g2,c2,c3,c4,hnx,stepM,stepB,stepA,alien,emp,List.set]
    ·simp (maxSteps:=1000000) +contextual -dsimp [Tryz.f232,f_argBounds,f_inRange,f_ci,f_first2,g1,g2,g4,c2,c3,c4,hnx,stepM,stepB,stepA,alien,emp,List.set]
   ·simp (maxSteps:=1000000) +contextual -dsimp [Tryz.f232,f_argBounds,f_inRange,f_ci,f_first2,g1,g2,g3,c2,c3,hnx,stepM,stepB,stepA,alien,emp,List.set]
  ·simp (maxSteps:=1000000) +contextual -dsimp [Tryz.f232,f_argBounds,f_inRange,f_ci,f_first2,g1,g2,c1,c2,hnx,stepM,stepA,alien,emp,List.set]
end Go.TM.Ft
namespace Go.TM.Ft
open Go Go.TM Go.Proofs
set_option maxRecDepth 20000
attribute [local congr] gif_cg
attribute [local simp] footOf noClash clash upsets setsHit setHits layHits layMeets setsMeet evFeet
structure Chart where
 status:Int
 now:Int
 vars:List Int
 acts:List Int
 dues:List Int
structure Inst where
 proc:Int
 chart:Chart
structure Claim where
 inst:Int
 step:Int
 user:Int
structure Engine where
 procs:List (List Step)
 insts:List Inst
 now:Int
structure Desk where
 eng:Engine
 claims:List Claim
abbrev iS (l:List Int):T:=.sl 2 (iE l)
abbrev cT (c:Chart):List T:=[vI c.status,vI c.now,iS c.vars,iS c.acts,iS c.dues]
abbrev xT (x:Inst):List T:=[vI x.proc,vI x.chart.status,vI x.chart.now,iS x.chart.vars,iS x.chart.acts,iS x.chart.dues]
abbrev pT (s n:TypeId) (p:List Step):List T:=[.sl s (p.map (sT n))]
abbrev kT (c:Claim):List T:=[vI c.inst,vI c.step,vI c.user]
theorem f_isPlace (n:Int) (m:Nat) (hm:m < 2 ^ 62):fo 115 [A (vI n),A (vI m)]=some (R (vB (inR n 0 ((m:Int) - 1)))):=by
 have hw:IntKind.i64.wrap ((m:Int) - 1)=(m:Int) - 1:=by rw [wrapI] <;> omega
 refine orc_115 1 ?_
 simp (maxSteps:=1000000) +contextual -dsimp [Tryz.f115,f_inRange,hw]
theorem f_isUser (n:Int):fo 201 [A (vI n)]=some (R (vB (inR n 1 9))):=by
 refine orc_201 1 ?_
 simp (maxSteps:=1000000) +contextual -dsimp [Tryz.f201,f_inRange]
theorem f_isTime (n:Int):fo 169 [A (vI n)]=some (R (vB (inR n 0 1000000))):=by
 refine orc_169 1 ?_
 simp (maxSteps:=1000000) +contextual -dsimp [Tryz.f169,f_inRange]
theorem f_isNaN (n:Int):fo 288 [A (vI n)]=some (R (vB false)):=by
 refine orc_288 1 ?_
 simp (maxSteps:=1000000) +contextual -dsimp [Tryz.f288,eqI_self,notB]
def cmpI (a b:Int):Int:=if ltI a b=true then -1 else if ltI b a=true then 1 else 0
theorem f_Compare (a b:Int):fo 253 [A (vI a),A (vI b)]=some (R (vI (cmpI a b))):=by
 refine orc_253 1 ?_
 cases h:ltI a b <;> cases h2:ltI b a <;>
 simp (maxSteps:=1000000) +contextual -dsimp [Tryz.f253,f_isNaN,h,h2,cmpI]
theorem f_Or (a b:Int):fo 252 [A (.sl 3 [[vI a],[vI b]])]=some (R (vI (first2 a b))):=by
 have h0:ltI 0 2=true:=rfl
 have h1:ltI 1 2=true:=rfl
 have h2:ltI 2 2=false:=rfl
 have w1:IntKind.i64.wrap 1=1:=rfl
 have w2:IntKind.i64.wrap 2=2:=rfl
 refine orc_252 4 ?_
 cases ha:eqI a 0
 ·simp -dsimp [Tryz.f252,loop_eq,h0,ha,first2]
 ·cases hb:eqI b 0
  ·simp -dsimp [Tryz.f252,loop_eq,h0,h1,w1,ha,hb,first2]
  ·simp -dsimp [Tryz.f252,loop_eq,h0,h1,h2,w1,w2,ha,hb,first2]
   simp [eqI] at hb; exact hb.symm
theorem f_compareClaims (a b:Claim):fo 204 [A (.agg (kT a)),A (.agg (kT b))]=some (R (vI (first2 (cmpI a.inst b.inst) (cmpI a.step b.step)))):=by
 refine orc_204 1 ?_
 simp (maxSteps:=1000000) +contextual -dsimp [Tryz.f204,f_Compare,f_Or,List.set]
theorem f_VarsBad (x:Int):fo 236 [A (vI x)]=some (R (vB (notB (inR x (-1000000) 1000000)))):=by
 refine orc_236 1 ?_
 simp (maxSteps:=1000000) +contextual -dsimp [Tryz.f236,f_inRange]
theorem f_small1 (x m:Int):fo 283 [A (vI x),A (.ipt [vI m])]=some (R (vB (notB (inR x 0 m)))):=by
 refine orc_283 1 ?_
 simp (maxSteps:=1000000) +contextual -dsimp [Tryz.f283,f_inRange]
def idxM (p:Int→Bool):Nat→List Int→Int
 | _,[]=>-1
 | i,x::r=>if p x=true then i else idxM p (i+1) r
theorem idxM_neg {p:Int→Bool}:∀ {l:List Int} {i:Nat},ltI (idxM p i l) 0=true→idxM p i l=-1
 | [],i,_=>rfl
 | x::l,i,h=>by
  unfold idxM at h ⊢
  split at h
  ·simp [ltI] at h; omega
  ·rename_i c; rw [if_neg c]; exact idxM_neg h
def badV (x:Int):Bool:=notB (inR x (-1000000) 1000000)
def badS (m x:Int):Bool:=notB (inR x 0 m)
theorem f_badV (x:Int):fo 236 [A (vI x)]=some (R (vB (badV x))):=f_VarsBad x
theorem f_badS (m x:Int):fo 283 [A (vI x),A (.ipt [vI m])]=some (R (vB (badS m x))):=f_small1 x m
theorem loop138a (all : List Int) (hall : all.length < 2 ^ 62) : ∀ (rest : List Int) (i : Nat), all.drop i = rest →
    evLoop E (orc E) (280 : Nat) (rest.length + 1) (loopOf Tryz.f280 0) ⟨19, [(0, iS all), (1, .v (.func (.func (236 : Nat)) #[] #[])), (7, vI all.length), (8, vI i)], [], 2⟩ =
    (if ltI (idxM badV i rest) 0 = true then some (.exit 0, ⟨19, [(0, iS all), (1, .v (.func (.func (236 : Nat)) #[] #[])), (7, vI all.length), (8, vI (i + rest.length : Nat)), (9, vB false)], [], 2⟩)
     else some (.ret, ⟨19, [(4, vI (idxM badV i rest))], [], 2⟩))
  | [], i, h => by
    have hge : all.length ≤ i := by simpa using h
    have hlt : ltI (i : Int) (all.length : Int) = false := ltI_f (by omega)
    have h1 : ltI (-1) 0 = true := rfl
    rw [loop_eq]
    simp +contextual -dsimp [Tryz.f280, hlt, idxM, h1]
  | x :: rest, i, h => by
    obtain ⟨hi, hc, hr⟩ := drop_cons h
    have hlt : ltI (i : Int) (all.length : Int) = true := ltI_t (by omega)
    have hw : IntKind.i64.wrap ((i : Int) + 1) = ((i + 1 : Nat) : Int) := by rw [wrapI] <;> omega
    have he : i + 1 + rest.length = i + (rest.length + 1) := by omega
    have h0 : ltI (i : Int) 0 = false := ltI_f (by omega)
    have g := f_badV x
    cases c : badV x
    · have ih := loop138a all hall rest (i + 1) hr
      rw [he] at ih
      have hm : idxM badV i (x :: rest) = idxM badV (i + 1) rest := by simp [idxM, c]
      rw [hm]
      rw [c] at g
      refine evLoop_next ?_ (by simpa only [List.length_cons] using ih)
      simp (maxSteps := 1000000) +contextual -dsimp [Tryz.f280, hlt, hi, hc, hw, g]
    · have hm : idxM badV i (x :: rest) = i := by simp [idxM, c]
      rw [hm, h0, if_neg (by simp)]
      rw [c] at g
      refine evLoop_out ?_ (by simp)
      simp (maxSteps := 1000000) +contextual -dsimp [Tryz.f280, hlt, hi, hc, g]
theorem loop138b {m : Int} (all : List Int) (hall : all.length < 2 ^ 62) : ∀ (rest : List Int) (i : Nat), all.drop i = rest →
    evLoop E (orc E) (280 : Nat) (rest.length + 1) (loopOf Tryz.f280 0) ⟨19, [(0, iS all), (1, .clo (283 : Nat) [.ipt [vI m]]), (7, vI all.length), (8, vI i)], [], 2⟩ =
    (if ltI (idxM (badS m) i rest) 0 = true then some (.exit 0, ⟨19, [(0, iS all), (1, .clo (283 : Nat) [.ipt [vI m]]), (7, vI all.length), (8, vI (i + rest.length : Nat)), (9, vB false)], [], 2⟩)
     else some (.ret, ⟨19, [(4, vI (idxM (badS m) i rest))], [], 2⟩))
  | [], i, h => by
    have hge : all.length ≤ i := by simpa using h
    have hlt : ltI (i : Int) (all.length : Int) = false := ltI_f (by omega)
    have h1 : ltI (-1) 0 = true := rfl
    rw [loop_eq]
    simp +contextual -dsimp [Tryz.f280, hlt, idxM, h1]
  | x :: rest, i, h => by
    obtain ⟨hi, hc, hr⟩ := drop_cons h
    have hlt : ltI (i : Int) (all.length : Int) = true := ltI_t (by omega)
    have hw : IntKind.i64.wrap ((i : Int) + 1) = ((i + 1 : Nat) : Int) := by rw [wrapI] <;> omega
    have he : i + 1 + rest.length = i + (rest.length + 1) := by omega
    have h0 : ltI (i : Int) 0 = false := ltI_f (by omega)
    have g := f_badS m x
    cases c : (badS m) x
    · have ih := loop138b (m := m) all hall rest (i + 1) hr
      rw [he] at ih
      have hm : idxM (badS m) i (x :: rest) = idxM (badS m) (i + 1) rest := by simp [idxM, c]
      rw [hm]
      rw [c] at g
      refine evLoop_next ?_ (by simpa only [List.length_cons] using ih)
      simp (maxSteps := 1000000) +contextual -dsimp [Tryz.f280, hlt, hi, hc, hw, g]
    · have hm : idxM (badS m) i (x :: rest) = i := by simp [idxM, c]
      rw [hm, h0, if_neg (by simp)]
      rw [c] at g
      refine evLoop_out ?_ (by simp)
      simp (maxSteps := 1000000) +contextual -dsimp [Tryz.f280, hlt, hi, hc, g]
theorem f_IndexV (l:List Int) (hl:l.length < 2 ^ 62):fo 280 [A (iS l),A (.v (.func (.func (236:Nat)) #[] #[]))]=some (R (vI (idxM badV 0 l))):=by
 have hlp:=loop138a l hl l 0 rfl
 refine orc_280 (l.length+1) ?_
 simp -dsimp [Tryz.f280] at hlp
 cases c:ltI (idxM badV 0 l) 0
 ·simp (maxSteps:=1000000) +contextual -dsimp [Tryz.f280,hlp,c]
 ·have e:idxM badV 0 l=-1:=idxM_neg c
  rw [e] at hlp ⊢
  simp (maxSteps:=1000000) +contextual -dsimp [Tryz.f280,hlp]
theorem f_IndexS (m:Int) (l:List Int) (hl:l.length < 2 ^ 62):fo 280 [A (iS l),A (.clo (283:Nat) [.ipt [vI m]])]=some (R (vI (idxM (badS m) 0 l))):=by
 have hlp:=loop138b (m:=m) l hl l 0 rfl
 refine orc_280 (l.length+1) ?_
 simp -dsimp [Tryz.f280] at hlp
 cases c:ltI (idxM (badS m) 0 l) 0
 ·simp (maxSteps:=1000000) +contextual -dsimp [Tryz.f280,hlp,c]
 ·have e:idxM (badS m) 0 l=-1:=idxM_neg c
  rw [e] at hlp ⊢
  simp (maxSteps:=1000000) +contextual -dsimp [Tryz.f280,hlp]
def hasB (p:Int→Bool) (l:List Int):Bool:=leI 0 (idxM p 0 l)
theorem f_ContV (l:List Int) (hl:l.length < 2 ^ 62):fo 235 [A (iS l),A (.v (.func (.func (236:Nat)) #[] #[]))]=some (R (vB (hasB badV l))):=by
 have g:=f_IndexV l hl
 refine orc_235 1 ?_
 simp (maxSteps:=1000000) +contextual -dsimp [Tryz.f235,g,hasB]
theorem f_ContS (m:Int) (l:List Int) (hl:l.length < 2 ^ 62):fo 235 [A (iS l),A (.clo (283:Nat) [.ipt [vI m]])]=some (R (vB (hasB (badS m) l))):=by
 have g:=f_IndexS m l hl
 refine orc_235 1 ?_
 simp (maxSteps:=1000000) +contextual -dsimp [Tryz.f235,g,hasB]
theorem f_areSmall (l:List Int) (hl:l.length < 2 ^ 62) (m:Int):fo 244 [A (iS l),A (vI m)]=some (R (vB (notB (hasB (badS m) l)))):=by
 have g:=f_ContS m l hl
 refine orc_244 1 ?_
 simp (maxSteps:=1000000) +contextual -dsimp [Tryz.f244,g]
def varsM (l:List Int):Int:=first2 (ci (notB (eqI l.length 4)) 2) (ci (hasB badV l) 3)
theorem f_VarsFault (l:List Int) (hl:l.length < 2 ^ 62):fo 168 [A (iS l)]=some (R (vI (varsM l))):=by
 have g:=f_ContV l hl
 refine orc_168 1 ?_
 simp (maxSteps:=1000000) +contextual -dsimp [Tryz.f168,g,f_ci,f_first2,varsM,List.set]
theorem f_first4 (a b c d:Int):fo 78 [A (.sl 2 [[vI a],[vI b],[vI c],[vI d]])]=some (R (vI (first2 a (first2 b (first2 c d))))):=by
 have h0:ltI 0 4=true:=rfl
 have h1:ltI 1 4=true:=rfl
 have h2:ltI 2 4=true:=rfl
 have h3:ltI 3 4=true:=rfl
 have h4:ltI 4 4=false:=rfl
 have w1:IntKind.i64.wrap 1=1:=rfl
 have w2:IntKind.i64.wrap 2=2:=rfl
 have w3:IntKind.i64.wrap 3=3:=rfl
 have w4:IntKind.i64.wrap 4=4:=rfl
 refine orc_78 6 ?_
 cases ha:eqI a 0
 ·simp -dsimp [Tryz.f78,loop_eq,h0,ha,first2]
 ·cases hb:eqI b 0
  ·simp -dsimp [Tryz.f78,loop_eq,h0,h1,w1,ha,hb,first2]
  ·cases hc:eqI c 0
   ·simp -dsimp [Tryz.f78,loop_eq,h0,h1,h2,w1,w2,ha,hb,hc,first2]
   ·cases hd:eqI d 0
    ·simp -dsimp [Tryz.f78,loop_eq,h0,h1,h2,h3,w1,w2,w3,ha,hb,hc,hd,first2]
    ·simp -dsimp [Tryz.f78,loop_eq,h0,h1,h2,h3,h4,w1,w2,w3,w4,ha,hb,hc,hd,first2]
     simp [eqI] at hd; exact hd.symm
end Go.TM.Ft
namespace Go.TM.Ft
open Go Go.TM Go.Proofs
set_option maxRecDepth 20000
attribute [local congr] gif_cg
attribute [local simp] footOf noClash clash upsets setsHit setHits layHits layMeets setsMeet evFeet
abbrev bT (l:List Step) (c:Chart):List T:=[.sl 124 (l.map (sT 219)),vI c.status,vI c.now,iS c.vars,iS c.acts,iS c.dues]
def cntM (acts:List Int) (act:Int):List Int→Nat→Nat
 | [],n=>n
 | k::r,n=>cntM acts act r (if eqI (szAt acts k) act=true then n+1 else n)
theorem cnt_le (acts:List Int) (act:Int):∀ (l:List Int) (n:Nat),cntM acts act l n≤n+l.length
 | [],n=>by simp [cntM]
 | k::l,n=>by
  unfold cntM
  rw [List.length_cons]
  split
  ·have:=cnt_le acts act l (n+1); omega
  ·have:=cnt_le acts act l n; omega
theorem szAt_get {l:List Int} {k:Nat} (h:k < l.length):szAt l (k:Int)=l[k]:=by simp [szAt,h]
theorem loop139 (l:List Step) (c:Chart) (act:Int) (hb:c.acts.length < 2 ^ 62) (all:List Int) (hall:all.length≤1000) (hk:∀ k,k∈all→∃ a:Nat,k=a∧a < c.acts.length):∀ (rest:List Int) (i n:Nat),all.drop i=rest→n≤i→
  evLoop E (orc E) (302:Nat) (rest.length+1) (loopOf Tryz.f302 0) ⟨30,[(0,.ipt (bT l c)),(2,vI act),(7,vI n),(10,iS all),(11,vI all.length),(12,vI i)],[],2⟩=
  some (.exit 0,⟨30,[(0,.ipt (bT l c)),(2,vI act),(7,vI (cntM c.acts act rest n)),(10,iS all),(11,vI all.length),(12,vI (i+rest.length:Nat)),(13,vB false)],[],2⟩)
 | [],i,n,h,hn=>by
  have hge:all.length≤i:=by simpa using h
  have hlt:ltI (i:Int) (all.length:Int)=false:=ltI_f (by omega)
  rw [loop_eq]
  simp +contextual -dsimp [Tryz.f302,hlt,cntM]
 | x::rest,i,n,h,hn=>by
  obtain ⟨hi,hc,hr⟩:=drop_cons h
  obtain ⟨a,rfl,ha⟩:=hk x (by rw [← hc]; exact List.getElem_mem _)
  have hlt:ltI (i:Int) (all.length:Int)=true:=ltI_t (by omega)
  have hw:IntKind.i64.wrap ((i:Int)+1)=((i+1:Nat):Int):=by rw [wrapI] <;> omega
  have hw2:IntKind.i64.wrap ((n:Int)+1)=((n+1:Nat):Int):=by rw [wrapI] <;> omega
  have he:i+1+rest.length=i+(rest.length+1):=by omega
  have hs:=szAt_get ha
  cases q:eqI (c.acts[a]) act
  ·have ih:=loop139 l c act hb all hall hk rest (i+1) n hr (by omega)
   rw [he] at ih
   have hm:cntM c.acts act ((a:Int)::rest) n=cntM c.acts act rest n:=by simp [cntM,hs,q]
   rw [hm]
   refine evLoop_next ?_ (by simpa only [List.length_cons] using ih)
   simp (maxSteps:=1000000) +contextual -dsimp [Tryz.f302,hlt,hi,hc,hw,ha,q]
  ·have ih:=loop139 l c act hb all hall hk rest (i+1) (n+1) hr (by omega)
   rw [he] at ih
   have hm:cntM c.acts act ((a:Int)::rest) n=cntM c.acts act rest (n+1):=by simp [cntM,hs,q]
   rw [hm]
   refine evLoop_next ?_ (by simpa only [List.length_cons] using ih)
   simp (maxSteps:=1000000) +contextual -dsimp [Tryz.f302,hlt,hi,hc,hw,hw2,ha,q]
theorem f_count (l:List Step) (c:Chart) (act:Int) (hb:c.acts.length < 2 ^ 62) (all:List Int) (hall:all.length≤1000) (hk:∀ k,k∈all→∃ a:Nat,k=a∧a < c.acts.length):
  fo 302 [A (.ipt (bT l c)),A (iS all),A (vI act)]=some (R (vI (cntM c.acts act all 0:Nat))):=by
 have hlp:=loop139 l c act hb all hall hk all 0 0 rfl (Nat.le_refl _)
 refine orc_302 (all.length+1) ?_
 simp -dsimp [Tryz.f302] at hlp
 simp (maxSteps:=1000000) +contextual -dsimp [Tryz.f302,hlp]
end Go.TM.Ft
namespace Go.TM.Ft
open Go Go.TM Go.Proofs
set_option maxRecDepth 20000
attribute [local congr] gif_cg
abbrev iW (l:List Int):List (List T):=l.map fun n=>[vI n]
abbrev argW (out:List Int):Arg:=⟨.ref 2 0 [] 0 out.length,some ⟨0,0,false,[.own 2 (iW out)]⟩⟩
def walk4M (l:List Node):Nat→Nat→List Int→List Int
 | 0,_,out=>out
 | f+1,at_,out=>
  match l[at_]? with
  | none=>out
  | some n=>
   if ltI 16 out.length=true then out
   else if ltI 2 n.kind=true then
    (if inR n.kind 3 9=true then walk4M l f n.right.toNat (walk4M l f n.left.toNat out) else walk4M l f n.left.toNat out)++[(at_:Int)]
   else out++[(at_:Int)]
def Good (l:List Node):Prop:=∀ (k:Nat) (h:k < l.length),(ltI 2 (l[k]).kind=true→0≤(l[k]).left∧(l[k]).left < k)∧(inR (l[k]).kind 3 9=true→0≤(l[k]).right∧(l[k]).right < k)
theorem walk4_len (l:List Node):∀ (f at_:Nat) (out:List Int),(walk4M l f at_ out).length+1≤out.length+2 ^ f
 | 0,at_,out=>by simp [walk4M]
 | f+1,at_,out=>by
  have h1:=fun a o=>walk4_len l f a o
  have h2:0 < 2 ^ f:=Nat.pow_pos (by omega)
  have h3:2 ^ (f+1)=2*2 ^ f:=by rw [Nat.pow_succ]; omega
  unfold walk4M
  split
  ·omega
  ·rename_i n _
   split
   ·omega
   ·split
    ·split
     ·have:=h1 n.right.toNat (walk4M l f n.left.toNat out)
      have:=h1 n.left.toNat out
      simp only [List.length_append,List.length_cons,List.length_nil]
      omega
     ·have:=h1 n.left.toNat out
      simp only [List.length_append,List.length_cons,List.length_nil]
      omega
    ·simp only [List.length_append,List.length_cons,List.length_nil]
     omega
theorem clean_iW (l:List Int):cleanEs (iW l)=true:=by induction l <;> simp_all [cleanEs,cleanL,clean]
theorem f_l3Walk (l:List Node) (hg:Good l):∀ (f at_:Nat) (out:List Int),at_ < f→at_ < l.length→f≤16→out.length≤1000000→
  fo 295 [A (nS 219 l),A (vI at_),argW out]=some ⟨.own 2 (iW (walk4M l f at_ out)),[],true⟩
 | 0,at_,out,h,_,_,_=>by omega
 | f+1,at_,out,h,hl,hf,ho=>by
  obtain ⟨g1,g2⟩:=hg at_ hl
  have hn:l[at_]?=some l[at_]:=by simp [hl]
  have hm1:out.length+1≤maxElems:=by unfold maxElems; omega
  refine orc_295 1 ?_
  unfold walk4M
  rw [hn]
  simp only
  cases c1:ltI 16 out.length
  ·cases c2:ltI 2 (l[at_]).kind
   ·have c3:inR (l[at_]).kind 3 9=false:=by simp [ltI,inR,andB,leI] at c2 ⊢; omega
    have hc:cleanEs (iW out++[[vI at_]])=true:=by simpa using clean_iW (out++[(at_:Int)])
    simp (maxSteps:=1000000) +contextual -dsimp [Tryz.f295,f_l3Two,hl,hm1,c1,c2,c3,hc]
   ·obtain ⟨p1,p2⟩:=g1 c2
    obtain ⟨a,ha⟩:=Int.eq_ofNat_of_zero_le p1
    have ga:=f_l3Walk l hg f a out (by omega) (by omega) (by omega) ho
    have la:=walk4_len l f a out
    have l16:out.length≤16:=by simp [ltI] at c1; omega
    have hpow:2 ^ f≤32768:=by
     have:=Nat.pow_le_pow_right (n:=2) (by omega) (show f≤15 by omega)
     omega
    have ta:(l[at_]).left.toNat=a:=by omega
    cases c3:inR (l[at_]).kind 3 9
    ·have hm2:(walk4M l f a out).length+1≤maxElems:=by unfold maxElems; omega
     have hc:cleanEs (iW (walk4M l f a out)++[[vI at_]])=true:=by simpa using clean_iW (walk4M l f a out++[(at_:Int)])
     simp (maxSteps:=1000000) +contextual -dsimp [Tryz.f295,f_l3Two,hl,hm2,c1,c2,c3,ha,ga,hc]
    ·obtain ⟨p3,p4⟩:=g2 c3
     obtain ⟨b,hb⟩:=Int.eq_ofNat_of_zero_le p3
     have gb:=f_l3Walk l hg f b (walk4M l f a out) (by omega) (by omega) (by omega) (by omega)
     have lb:=walk4_len l f b (walk4M l f a out)
     have hm2:(walk4M l f b (walk4M l f a out)).length+1≤maxElems:=by unfold maxElems; omega
     have hc:cleanEs (iW (walk4M l f b (walk4M l f a out))++[[vI at_]])=true:=by simpa using clean_iW (walk4M l f b (walk4M l f a out)++[(at_:Int)])
     simp (maxSteps:=1000000) +contextual -dsimp [Tryz.f295,f_l3Two,hl,hm2,c1,c2,c3,ha,hb,ga,gb,hc]
  ·have hc:=clean_iW out
   simp (maxSteps:=1000000) +contextual -dsimp [Tryz.f295,c1,hc]
end Go.TM.Ft
