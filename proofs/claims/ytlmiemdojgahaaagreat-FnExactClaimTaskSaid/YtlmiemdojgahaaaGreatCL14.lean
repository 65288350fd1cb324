/- What functions of the program come to, by the machine. -/
import Derived.Test.YtlmiemdojgahaaaGreatCL13
import Derived.Test.YtlmiemdojgahaaaGreatCL9
import Derived.ProofKit
import Derived.SizedLaws
set_option linter.unusedSimpArgs false
set_option linter.unusedVariables false
namespace Go.TM.Ft
open Go Go.TM Go.Proofs Go.RowKit Go.ChangeShapes Go.WideShapes
set_option maxRecDepth 20000
def okAll (sz:TypeId→Nat) (h:Array Obj) (I:Nat→Prop):List T→List Value→Prop
 | [],us=>us=[]
 | t::ts,us=>∃ u us',us=u::us'∧okV sz h I t u []∧okAll sz h I ts us'
theorem okArgs_all {sz h I}:∀ {ar:List T} {us:List Value} (i:Nat),okAll sz h I ar us→okArgs sz h I i (ar.map A) us []
 | [],us,i,h=>⟨h,rfl⟩
 | t::ts,us,i,h=>by
  obtain ⟨u,us',rfl,h1,h2⟩:=h
  exact ⟨u,us',[],[],rfl,rfl,⟨h1,rfl⟩,okArgs_all (i+1) h2⟩
theorem law_calls {f:Nat} {ar:List T} {us:List Value} {W:Go.World} (hl:lends (E.mode f)=false) (h:fo f (ar.map A)=some (R (vB true))) (hok:okAll (szOf E) W.heap (fun b=>b < W.heap.size) ar us):
  Calls Tryz.prog f us.toArray W fun e W'=>e=.returned (.bool true)∧Below W.heap.size W W':=by
 have hs:=(orc_sound able h).1.old hl ⟨W,[],fun b=>b < W.heap.size,fun b hb=>⟨hb,by simp⟩⟩ us (by simp [Uniq]) (by simp) (okArgs_all 0 hok)
 refine Calls.mono hs fun e W' h=>?_
 match e,h with
 | .returned u,h=>
  obtain ⟨f,fo,hu,_⟩:=h.ok
  simp only [okV] at hu
  obtain ⟨rfl,_⟩:=hu
  exact ⟨rfl,⟨h.fr.os,h.fr.tape,h.fr.output,h.fr.size,fun k hk=>h.fr.block k hk (by simp)⟩⟩
section
variable {H:Type} {enc:TypeId × Value→H} {W:Go.World} {base:Nat} {n:Nat} {t:TypeId} {v:Value} {d:DataW H} {p:List MemPlace}
theorem read_cell (hp:plainT (szOf E) Tryz.prog n t=true) (h:DataW.Trod enc Tryz.prog W 0 (fun _=>true) true t v d p) (hv:v.cells=#[v]) (hwt:∀ k,k∈d.weights Tryz.prog t→k≤reachBytes):
  ∃ a,TreeT Tryz.prog n t [a]∧okV (szOf E) W.heap (fun b=>b < W.heap.size) a v []:=by
 obtain ⟨ts,ht,hok⟩:=read_arg (sz:=szOf E) (I:=fun b=>b < W.heap.size) (fun b hb=>hb) hp h hv hwt
 match ts,hok with
 | [],hok=>simp [okL] at hok
 | a::ts,hok=>
  simp only [okL] at hok
  obtain ⟨u,us',f1,f2,e1,e2,h1,h2⟩:=hok
  obtain ⟨rfl,rfl⟩:=List.cons.inj e1
  obtain ⟨rfl,rfl⟩:=List.append_eq_nil_iff.1 e2.symm
  cases ts with
  | nil=>exact ⟨a,ht,h1⟩
  | cons b ts=>simp [okL] at h2
theorem read_int {k:IntKind} (hu:Tryz.prog.underlying t=some (.int k)) (hp:plainT (szOf E) Tryz.prog n t=true) (h:DataW.Trod enc Tryz.prog W 0 (fun _=>true) true t v d p) (hv:Value.okWide Tryz.prog W .any base t v)
  (hwt:∀ k,k∈d.weights Tryz.prog t→k≤reachBytes):∃ a,TreeT Tryz.prog n t [a]∧okV (szOf E) W.heap (fun b=>b < W.heap.size) a v []:=by
 obtain ⟨m,rfl⟩:=okWide_int hu hv
 exact read_cell hp h rfl hwt
theorem read_struct {fs:Array Field} (hu:Tryz.prog.underlying t=some (.struct fs)) (hp:plainT (szOf E) Tryz.prog n t=true) (h:DataW.Trod enc Tryz.prog W 0 (fun _=>true) true t v d p) (hv:Value.okWide Tryz.prog W .any base t v)
  (hwt:∀ k,k∈d.weights Tryz.prog t→k≤reachBytes):∃ cs,TreeT Tryz.prog n t cs∧okV (szOf E) W.heap (fun b=>b < W.heap.size) (.agg cs) v []:=by
 simp only [Value.okWide,hu] at hv
 obtain ⟨cs,rfl,_⟩:=hv
 obtain ⟨fuel,hf0⟩:=h
 obtain ⟨ts,ht,hok⟩:=read_ok (sz:=szOf E) (I:=fun b=>b < W.heap.size) (fun b hb=>hb) n fuel t _ _ hp hf0 hwt
 exact ⟨ts,ht,by simp only [okV]; exact ⟨cs.toList,by simp,hok⟩⟩
end
end Go.TM.Ft
