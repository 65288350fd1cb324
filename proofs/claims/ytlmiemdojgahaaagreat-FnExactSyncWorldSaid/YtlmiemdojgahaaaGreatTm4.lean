/- Of the tree machine: its evaluator and why it is sound. -/
import Derived.Test.YtlmiemdojgahaaaGreatTm3
import Derived.Carry
import Derived.ChangeArms
import Derived.ChangeShapes
import Derived.OpenShut
import GoSem.ClaimJoined
set_option linter.unusedSimpArgs false
set_option linter.unusedVariables false
namespace Go.TM
open Go Go.RowKit
def tilesB (P:Program):List Field→Nat→Nat→Bool
 | [],a,tot=>a==tot
 | f::fs,a,tot=>f.offset==a && tilesB P fs (a+P.cellsOf f.type) tot
def plainT (sz:TypeId→Nat) (P:Program):Nat→TypeId→Bool
 | 0,_=>false
 | n+1,t=>
  match P.underlying t with
  | some .bool | some (.int _) | some .string=>true
  | some (.slice e)=>sz e==P.cellsOf e && P.cellsOf e != 0 && P.bytesOf e != 0 && plainT sz P n e
  | some (.struct fs)=>tilesB P fs.toList 0 (P.cellsOf t) && fs.toList.all fun f=>plainT sz P n f.type
  | _=>false
def treeFs (Q:TypeId→List T→Prop):List Field→List T→Prop
 | [],ts=>ts=[]
 | f::fs,ts=>∃ c r,ts=c++r∧Q f.type c∧treeFs Q fs r
def TreeT (P:Program):Nat→TypeId→List T→Prop
 | 0,_,_=>False
 | n+1,t,ts=>
  match P.underlying t with
  | some .bool=>∃ b,ts=[.v (.bool b)]
  | some (.int k)=>∃ x,ts=[.v (.int k x)]∧(Lit.int k x).wf=true
  | some .string=>∃ s:ByteArray,ts=[.v (.string s)]∧s.size≤reachBytes
  | some (.slice e)=>∃ es,ts=[.sl e es]∧es.length≤reachBytes∧∀ c,c∈es→TreeT P n e c
  | some (.struct fs)=>treeFs (TreeT P n) fs.toList ts
  | _=>False
theorem okL_glue {sz h I}:∀ {c d:List T} {us vs:List Value},okL sz h I c us []→okL sz h I d vs []→okL sz h I (c++d) (us++vs) []
 | [],d,us,vs,h1,h2=>by
  simp only [okL] at h1
  rw [h1.1]; simpa using h2
 | t::c,d,us,vs,h1,h2=>by
  simp only [okL] at h1
  obtain ⟨u,us',f1,f2,rfl,hf,h3,h4⟩:=h1
  have e:=List.append_eq_nil_iff.1 hf.symm
  obtain ⟨rfl,rfl⟩:=e
  exact ⟨u,us'++vs,[],[],rfl,rfl,h3,okL_glue h4 h2⟩
theorem okEs_mk {sz h I} {s:Nat} {Q:List T→Prop}:∀ (m:Nat) (l:List Value),
  (∀ i,i < m→∃ c,Q c∧c.length=s∧okL sz h I c ((l.drop (i*s)).take s) [])→∃ es:List (List T),es.length=m∧(∀ c,c∈es→Q c)∧okEs sz h I s es l []
 | 0,l,_=>⟨[],rfl,fun c hc=>by simp at hc,rfl⟩
 | m+1,l,hx=>by
  obtain ⟨c,q,hl,hc⟩:=hx 0 (by omega)
  obtain ⟨es,h1,h2,h3⟩:=okEs_mk (Q:=Q) m (l.drop s) (fun i hi=>by
   obtain ⟨c,q,hl,hc⟩:=hx (i+1) (by omega)
   refine ⟨c,q,hl,?_⟩
   rw [List.drop_drop]
   have e:s+i*s=(i+1)*s:=by rw [Nat.add_mul]; omega
   rw [e]; exact hc)
  refine ⟨c::es,by simp [h1],fun d hd=>?_,[],[],hl,rfl,by simpa using hc,h3⟩
  rcases List.mem_cons.1 hd with rfl | hd
  ·exact q
  ·exact h2 d hd
section
variable {H:Type} {enc:TypeId × Value→H} {P:Program} {w:World} {base:Nat} {spare:Nat→Bool} {held:Bool} {sz:TypeId→Nat} {I:Nat→Prop}
theorem read_fields {Q:TypeId→List T→Prop} {tot:Nat} {cs:List Value}:∀ (fs:List Field) (a:Nat),tilesB P fs a tot=true→cs.length=tot→a≤tot→
  (∀ f,f∈fs→∃ ts,Q f.type ts∧okL sz w.heap I ts ((cs.drop f.offset).take (P.cellsOf f.type)) [])→∃ ts,treeFs Q fs ts∧okL sz w.heap I ts (cs.drop a) []
 | [],a,ht,hl,ha,hx=>by
  simp only [tilesB,beq_iff_eq] at ht
  refine ⟨[],rfl,?_⟩
  rw [List.drop_eq_nil_of_le (by omega)]; exact ⟨rfl,rfl⟩
 | f::fs,a,ht,hl,ha,hx=>by
  simp only [tilesB,Bool.and_eq_true,beq_iff_eq] at ht
  obtain ⟨h1,h2⟩:=ht
  obtain ⟨c,q1,q2⟩:=hx f (by simp)
  have hle:a+P.cellsOf f.type≤tot:=by
   clear hx q1 q2
   have:∀ (fs:List Field) (a:Nat),tilesB P fs a tot=true→a≤tot:=by
    intro fs
    induction fs with
    | nil=>intro a h; simp [tilesB] at h; omega
    | cons g gs ih=>
     intro a h
     simp only [tilesB,Bool.and_eq_true] at h
     have:=ih _ h.2; omega
   exact this fs _ h2
  obtain ⟨r,q3,q4⟩:=read_fields fs (a+P.cellsOf f.type) h2 hl hle (fun g hg=>hx g (by simp [hg]))
  refine ⟨c++r,⟨c,r,rfl,q1,q3⟩,?_⟩
  have e:cs.drop a=(cs.drop f.offset).take (P.cellsOf f.type)++cs.drop (a+P.cellsOf f.type):=by
   rw [h1,← List.drop_drop,List.take_append_drop]
  rw [e]; exact okL_glue q2 q4
theorem weightsAll_mem {e:TypeId} {k:Nat} {d:DataW H} (hk:k∈d.weights P e):∀ {l:List (DataW H)},d∈l→k∈DataW.weightsAll P e l
 | [],h=>by simp at h
 | x::l,h=>by
  unfold DataW.weightsAll
  rcases List.mem_cons.1 h with rfl | h
  ·exact List.mem_append_left _ hk
  ·exact List.mem_append_right _ (weightsAll_mem hk h)
theorem weightsEach_mem {k:Nat} {d:DataW H} {t:TypeId} (hk:k∈d.weights P t):∀ {ts:List TypeId} {l:List (DataW H)} {i:Nat},ts[i]?=some t→l[i]?=some d→k∈DataW.weightsEach P ts l
 | [],l,i,h,_=>by simp at h
 | _::_,[],i,_,h=>by simp at h
 | t'::ts,d'::l,0,h1,h2=>by
  simp at h1 h2
  subst h1; subst h2
  unfold DataW.weightsEach
  exact List.mem_append_left _ hk
 | t'::ts,d'::l,i+1,h1,h2=>by
  unfold DataW.weightsEach
  exact List.mem_append_right _ (weightsEach_mem hk (by simpa using h1) (by simpa using h2))
theorem read_ok (hI:∀ b,b < w.heap.size→I b):∀ (n:Nat) (fuel:Nat) (t:TypeId) (cs:List Value) (x:DataW H × List MemPlace),plainT sz P n t=true→
  DataW.trod enc P w base spare held fuel t cs=some x→(∀ k,k∈x.1.weights P t→k≤reachBytes)→∃ ts,TreeT P n t ts∧okL sz w.heap I ts cs []
 | 0,_,_,_,_,h,_,_=>by simp [plainT] at h
 | n+1,fuel,t,cs,x,hp,h,hwt=>by
  unfold plainT at hp
  unfold TreeT
  split at hp
  ·rename_i hu
   obtain ⟨b,rfl,_⟩:=DataW.trod_bool hu h
   exact ⟨_,⟨b,rfl⟩,⟨_,[],[],[],rfl,rfl,⟨rfl,rfl⟩,⟨rfl,rfl⟩⟩⟩
  ·rename_i hu
   obtain ⟨b,rfl,_,hw⟩:=DataW.trod_int hu h
   exact ⟨_,⟨b,rfl,hw⟩,⟨_,[],[],[],rfl,rfl,⟨rfl,rfl⟩,⟨rfl,rfl⟩⟩⟩
  ·rename_i hu
   obtain ⟨b,rfl,rfl,hw⟩:=DataW.trod_string hu h
   have hw:=hwt b.data.toList.length (by simp [DataW.weights])
   exact ⟨_,⟨b,rfl,hw⟩,⟨_,[],[],[],rfl,rfl,⟨rfl,rfl⟩,⟨rfl,rfl⟩⟩⟩
  ·rename_i e hu
   simp only [Bool.and_eq_true,beq_iff_eq,bne_iff_ne] at hp
   obtain ⟨⟨⟨p1,p2⟩,p4⟩,p3⟩:=hp
   rcases DataW.trod_slice hu h with ⟨rfl,_⟩ | ⟨a,len,cap,elems,rest,m,_,rfl,rfl,hb,hl,hm,hlen,hel,_,_⟩
   ·exact ⟨[.sl e []],⟨[],rfl,by simp,fun c hc=>by simp at hc⟩,⟨_,[],[],[],rfl,rfl,⟨rfl,none,0,rfl,Nat.le_refl _,.inl rfl⟩,⟨rfl,rfl⟩⟩⟩
   ·rcases Nat.eq_zero_or_pos len with h0 | h0
    ·subst h0
     exact ⟨[.sl e []],⟨[],rfl,by simp,fun c hc=>by simp at hc⟩,⟨_,[],[],[],rfl,rfl,⟨rfl,some a,cap,rfl,by simp,.inl rfl⟩,⟨rfl,rfl⟩⟩⟩
    ·have hwl:len≤reachBytes:=by
      have:=hwt ((elems.length+rest.length)*P.bytesOf e) (by simp [DataW.weights,hu])
      have h1:elems.length+rest.length≤(elems.length+rest.length)*P.bytesOf e:=Nat.le_mul_of_pos_right _ (by omega)
      omega
     have hwe:∀ y,y∈elems→∀ k,k∈y.1.weights P e→k≤reachBytes:=fun y hy k hk=>hwt k (by
      have:k∈DataW.weightsAll P e (elems.map (·.1)):=weightsAll_mem hk (List.mem_map_of_mem hy)
      simp [DataW.weights,hu,this])
     have hcell:∀ i,i < len→∃ cs',w.cells? base (a.add (i*P.cellsOf e)) (P.cellsOf e)=some cs'∧∃ y,DataW.trod enc P w base spare held m e cs'=some y∧y∈elems:=fun i hi=>by
      have hx:=hel i hi
      have hs:elems[i]?=some elems[i]:=by simp [hlen,hi]
      rw [hs] at hx
      cases hc:w.cells? base (a.add (i*P.cellsOf e)) (P.cellsOf e) with
      | none=>rw [hc] at hx; simp at hx
      | some cs'=>rw [hc] at hx; exact ⟨cs',rfl,_,hx,List.getElem_mem _⟩
     obtain ⟨cs0,hc0,_⟩:=hcell 0 h0
     obtain ⟨_,hl0,hg0⟩:=World.cells?_some hc0
     have hg:=hg0 0 (by omega)
     have hadd:(a.add (0*P.cellsOf e)).add 0=a:=by simp [Addr.add]
     rw [hadd] at hg
     obtain ⟨b,o,spot⟩:=a
     have hcs0:cs0[0]?=some cs0[0]:=by simp
     rw [hcs0] at hg
     unfold World.cell? at hg
     cases hblk:w.heap[b]? with
     | none=>simp only at hg; rw [hblk] at hg; simp at hg
     | some ob=>
      cases ob with
      | cells arr el fz=>
       simp only at hg
       rw [hblk] at hg
       simp only at hg
       split at hg
       ·simp at hg
       ·rename_i hsp
        have hsp:spot=none:=by cases spot <;> simp_all
        subst hsp
        have hbs:b < w.heap.size:=(Array.getElem?_eq_some_iff.1 hblk).1
        have hcs:∀ i,i < len→∀ cs',w.cells? base ((⟨b,o,none⟩:Addr).add (i*P.cellsOf e)) (P.cellsOf e)=some cs'→cs'=(arr.toList.drop (o+i*P.cellsOf e)).take (P.cellsOf e):=fun i hi cs' hc=>by
         obtain ⟨_,hl',hg'⟩:=World.cells?_some hc
         have hadd:∀ j,((⟨b,o,none⟩:Addr).add (i*P.cellsOf e)).add j=⟨b,o+i*P.cellsOf e+j,none⟩:=fun j=>by
          unfold Addr.add
          by_cases e1:i*P.cellsOf e=0 <;> by_cases e2:j=0 <;> simp [e1,e2]
         have hget:∀ j,j < P.cellsOf e→arr.toList[o+i*P.cellsOf e+j]?=cs'[j]?:=fun j hj=>by
          have:=hg' j hj
          rw [hadd j] at this
          unfold World.cell? at this
          rw [hblk] at this
          simpa using this
         apply List.ext_getElem?
         intro j
         rw [List.getElem?_take,List.getElem?_drop]
         split
         ·rename_i hj; exact (hget j hj).symm
         ·rw [List.getElem?_eq_none]; omega
        obtain ⟨es,g1,g2,g3⟩:=okEs_mk (sz:=sz) (h:=w.heap) (I:=I) (s:=P.cellsOf e) (Q:=TreeT P n e) len (arr.toList.drop o) (fun i hi=>by
         obtain ⟨cs',hc,y,hy,hye⟩:=hcell i hi
         obtain ⟨ts,q1,q2⟩:=read_ok hI n m e cs' y p3 hy (hwe y hye)
         have hl':=(World.cells?_some hc).2.1
         have e1:=hcs i hi cs' hc
         refine ⟨ts,q1,by rw [← okL_length q2]; exact hl',?_⟩
         rw [List.drop_drop,← e1]; exact q2)
        refine ⟨[.sl e es],⟨es,rfl,by omega,g2⟩,⟨_,[],[],[],rfl,rfl,⟨rfl,some ⟨b,o,none⟩,cap,by rw [g1],by omega,.inr ⟨b,o,arr,el,fz,rfl,hI b hbs,hblk,?_⟩⟩,⟨rfl,rfl⟩⟩⟩
        rw [p1]; exact g3
      | _=>simp only at hg; rw [hblk] at hg; simp at hg
  ·rename_i fs hu
   simp only [Bool.and_eq_true,List.all_eq_true] at hp
   obtain ⟨p1,p2⟩:=hp
   obtain ⟨xs,m,_,rfl,hl,hxs,hf⟩:=DataW.trod_struct hu h
   obtain ⟨ts,q1,q2⟩:=read_fields (P:=P) (w:=w) (sz:=sz) (I:=I) (Q:=TreeT P n) fs.toList 0 p1 hl (by omega) (fun f hf'=>by
    obtain ⟨i,hi,he⟩:=List.getElem_of_mem hf'
    have hi':i < fs.size:=by simpa using hi
    have h1:fs[i]?=some f:=by rw [← he]; simp
    have h2:=hf i f h1
    have h3:xs[i]?=some xs[i]:=by simp
    rw [h3] at h2
    exact read_ok hI n m f.type _ _ (p2 f hf') h2 fun k hk=>hwt k (by
     simp only [DataW.weights,hu]
     exact weightsEach_mem hk (i:=i) (by simp [h1]) (by simp [h3])))
   exact ⟨ts,q1,by simpa using q2⟩
  ·simp at hp
end
end Go.TM
