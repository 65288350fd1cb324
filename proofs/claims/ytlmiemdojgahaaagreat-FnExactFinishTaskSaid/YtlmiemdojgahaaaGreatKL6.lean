/- What functions of the program come to, by the machine. -/
import Derived.Test.YtlmiemdojgahaaaGreatKL4
set_option linter.unusedSimpArgs false
set_option linter.unusedVariables false
namespace Go.TM.Ft
theorem c3j (n:Node) (i:Int):a2w n i=nodeFaultM n i:=by
 unfold a2w nodeFaultM B5
 by_cases h1:n.kind=1
 ·simp only [h1]; simp (config:={decide:=true}) only [orB,A1,A0,eqI,leI,inR]
  by_cases a:n.left=0 <;> by_cases b:n.right=0 <;> by_cases c:0≤n.value <;> by_cases d:n.value≤9999 <;> simp [a,b,c,d]
 by_cases h2:n.kind=2
 ·simp only [h2]; simp (config:={decide:=true}) only [orB,A1,A0,eqI,leI,inR]
  by_cases a:n.left=0 <;> by_cases b:n.right=0 <;> by_cases c:0≤n.value <;> by_cases d:n.value≤3 <;> simp [a,b,c,d]
 by_cases h10:n.kind=10
 ·simp only [h10]; simp (config:={decide:=true}) only [orB,A1,A0,eqI,leI,inR]
  by_cases a:n.value=0 <;> by_cases b:n.right=0 <;> by_cases c:0≤n.left <;> by_cases d:n.left≤i - 1 <;> simp [a,b,c,d]
 by_cases h3:3≤n.kind∧n.kind≤9
 ·obtain ⟨h3,h9⟩:=h3
  have e1:1≤n.kind:=by omega
  have e2:n.kind≤10:=by omega
  have e3:¬ n.kind≤2:=by omega
  simp (config:={decide:=true}) only [orB,A1,A0,eqI,leI,inR]
  by_cases a:n.value=0 <;> by_cases c:0≤n.left <;> by_cases d:n.left≤i - 1 <;> by_cases c2:0≤n.right <;> by_cases d2:n.right≤i - 1 <;> simp [a,c,d,c2,d2,h1,h2,h3,h9,h10,e1,e2,e3]
 ·have:¬ (1≤n.kind∧n.kind≤10):=by omega
  simp [orB,A1,A0,eqI,leI,inR,h1,h2,h10,h3,this]
theorem d4y:∀ (l:List Node) (i:Nat),a0c i l=N4 i l
 | [],_=>rfl
 | n::l,i=>by
  simp only [a0c,N4,c3j,d4y l]
def post (l:List Node):Nat→Nat→List Int
 | 0,_=>[]
 | f+1,at_=>
  match l[at_]? with
  | none=>[]
  | some n=>
   if ltI 2 n.kind=true then
    (if inR n.kind 3 9=true then post l f n.left.toNat++post l f n.right.toNat else post l f n.left.toNat)++[(at_:Int)]
   else [(at_:Int)]
theorem b7r (l:List Node):∀ (f at_:Nat) (out:List Int),out.length≤(J7 l f at_ out).length
 | 0,_,out=>by simp [J7]
 | f+1,at_,out=>by
  unfold J7
  split
  ·exact Nat.le_refl _
  ·rename_i n hn
   have h1:=b7r l f n.left.toNat out
   have h2:=b7r l f n.right.toNat (J7 l f n.left.toNat out)
   split
   ·exact Nat.le_refl _
   ·split
    ·split
     ·simp; omega
     ·simp; omega
    ·simp
theorem b7e (l:List Node):∀ (f at_:Nat) (out:List Int),(J7 l f at_ out).length≤16→J7 l f at_ out=out++post l f at_
 | 0,_,out,_=>by simp [J7,post]
 | f+1,at_,out,h=>by
  have hm:=b7r l (f+1) at_ out
  cases hn:l[at_]? with
  | none=>simp [J7,post,hn]
  | some n=>
   have ho:ltI 16 out.length=false:=by simp [ltI]; omega
   simp only [J7,post,hn,ho,Bool.false_eq_true,if_false] at h ⊢
   cases c:ltI 2 n.kind
   ·simp
   ·simp only [c,if_true] at h ⊢
    cases d:inR n.kind 3 9
    ·simp only [d,Bool.false_eq_true,if_false] at h ⊢
     simp at h
     rw [b7e l f _ _ (by omega),List.append_assoc]
    ·simp only [d,if_true] at h ⊢
     simp at h
     have h2:=b7r l f n.right.toNat (J7 l f n.left.toNat out)
     rw [b7e l f n.right.toNat _ (by omega),b7e l f n.left.toNat out (by omega)]
     simp
theorem b7s (l:List Node):∀ (f at_:Nat) (out:List Int),out.length+(post l f at_).length≤17→J7 l f at_ out=out++post l f at_
 | 0,_,out,_=>by simp [J7,post]
 | f+1,at_,out,h=>by
  cases hn:l[at_]? with
  | none=>simp [J7,post,hn]
  | some n=>
   simp only [J7,post,hn] at h ⊢
   cases c:ltI 2 n.kind
   ·simp only [c,Bool.false_eq_true,if_false] at h ⊢
    simp at h
    have ho:ltI 16 out.length=false:=by simp [ltI]; omega
    simp [ho]
   ·simp only [c,if_true] at h ⊢
    have ho:ltI 16 out.length=false:=by simp at h; simp [ltI]; omega
    simp only [ho,Bool.false_eq_true,if_false]
    cases d:inR n.kind 3 9
    ·simp only [d,Bool.false_eq_true,if_false] at h ⊢
     simp at h
     rw [b7s l f _ _ (by omega),List.append_assoc]
    ·simp only [d,if_true] at h ⊢
     simp at h
     rw [b7s l f n.left.toNat out (by omega),b7s l f n.right.toNat _ (by simp; omega)]
     simp
theorem b4t {l:List Node} (hg:a4y l):∀ (f g at_:Nat),at_ < f→at_ < g→post l f at_=post l g at_
 | 0,_,_,h,_=>by omega
 | f+1,0,_,_,h=>by omega
 | f+1,g+1,at_,h1,h2=>by
  unfold post
  split
  ·rfl
  ·rename_i n hn
   obtain ⟨hk,he⟩:=List.getElem?_eq_some_iff.1 hn
   obtain ⟨gl,gr⟩:=hg at_ hk
   rw [he] at gl gr
   cases c:ltI 2 n.kind
   ·simp
   ·have gl:=gl c
    simp only [if_true]
    rw [b4t hg f g n.left.toNat (by omega) (by omega)]
    cases d:inR n.kind 3 9
    ·simp
    ·have gr:=gr d
     simp only [if_true]
     rw [b4t hg f g n.right.toNat (by omega) (by omega)]
def Run (a:Int) (L:List Int):Prop:=∀ (p:Nat) (v:Int),L[p]?=some v→v=a+p
theorem c1m:∀ (L:List Int) (i:Nat),a2x i L=true ↔ Run i L
 | [],i=>by simp [a2x,Run]
 | x::L,i=>by
  have ih:=c1m L (i+1)
  unfold a2x
  constructor
  ·intro h p v hp
   split at h
   ·rename_i c
    cases p with
    | zero=>simp [eqI] at c hp; omega
    | succ p=>
     have:=(ih.1 h) p v (by simpa using hp)
     simp at this ⊢; omega
   ·simp at h
  ·intro h
   have h0:x=i:=by simpa using h 0 x (by simp)
   rw [if_pos (by simp [eqI,h0])]
   refine ih.2 fun p v hp=>?_
   have:=h (p+1) v (by simpa using hp)
   simp at this ⊢; omega
theorem c7p {a:Int} {X Y:List Int} (h1:Run a X) (h2:Run (a+X.length) Y):Run a (X++Y):=by
 intro p v hp
 rw [List.getElem?_append] at hp
 split at hp
 ·exact h1 p v hp
 ·have:=h2 _ v hp; omega
theorem b8l {a:Int} {X Y:List Int} (h:Run a (X++Y)):Run a X:=fun p v hp=>h p v (by
 obtain ⟨hl,_⟩:=List.getElem?_eq_some_iff.1 hp
 rw [List.getElem?_append_left hl]; exact hp)
theorem b0f {a:Int} {X Y:List Int} (h:Run a (X++Y)):Run (a+X.length) Y:=fun p v hp=>by
 have:=h (X.length+p) v (by rw [List.getElem?_append_right (by omega)]; simpa using hp)
 simp at this; omega
theorem c7q (a:Int):Run a [a]:=fun p v hp=>by
 cases p with
 | zero=>simp at hp; simp [hp]
 | succ p=>simp at hp
theorem b5y {a b:Int} (h:Run a [b]):b=a:=by simpa using h 0 b (by simp)
def sz (l:List Node) (k:Nat):Int:=(post l (k+1) k).length
def okk (l:List Node) (k:Nat):Prop:=∀ n,l[k]?=some n→
 (eqI n.kind 10=true→n.left=k - 1)∧(eqI n.kind 10=false→inR n.kind 3 9=true→n.right=k - 1∧n.left=k - 1 - sz l n.right.toNat)
theorem b5i {l:List Node} (hg:a4y l) {k:Nat} {n:Node} (h:l[k]?=some n):post l (k+1) k=
  if ltI 2 n.kind=true then
    (if inR n.kind 3 9=true then post l (n.left.toNat+1) n.left.toNat++post l (n.right.toNat+1) n.right.toNat else post l (n.left.toNat+1) n.left.toNat)++[(k:Int)]
   else [(k:Int)]:=by
 obtain ⟨hk,he⟩:=List.getElem?_eq_some_iff.1 h
 obtain ⟨gl,gr⟩:=hg k hk
 rw [he] at gl gr
 conv=>lhs; unfold post
 rw [h]
 simp only
 cases c:ltI 2 n.kind
 ·simp
 ·have gl:=gl c
  simp only [if_true]
  rw [b4t hg k (n.left.toNat+1) n.left.toNat (by omega) (by omega)]
  cases d:inR n.kind 3 9
  ·simp
  ·have gr:=gr d
   simp only [if_true]
   rw [b4t hg k (n.right.toNat+1) n.right.toNat (by omega) (by omega)]
theorem d0c {n:Node} {i:Int} (h:nodeFaultM n i=0) (c:ltI 2 n.kind=true):(eqI n.kind 10=true∧inR n.kind 3 9=false)∨(eqI n.kind 10=false∧inR n.kind 3 9=true):=by
 have:2 < n.kind:=by simpa [ltI] using c
 by_cases a:n.kind=10
 ·left; simp [eqI,inR,A1,leI,a]
 ·by_cases b:inR n.kind 3 9=true
  ·right; exact ⟨by simp [eqI,a],b⟩
  ·exfalso
   unfold nodeFaultM at h
   rw [if_neg (by simp [orB,eqI]; omega),if_neg (by simp [eqI,a]),if_neg b] at h
   simp at h
theorem b9v {l:List Node} (hg:a4y l) (hf:∀ k n,l[k]?=some n→nodeFaultM n (k:Nat)=0) (ho:∀ k,k < l.length→okk l k):∀ (m k:Nat),k < m→k < l.length→Run (k+1 - sz l k) (post l (k+1) k)
 | 0,_,h,_=>by omega
 | m+1,k,h,hk=>by
  have hn:l[k]?=some l[k]:=by simp [hk]
  obtain ⟨o1,o2⟩:=ho k hk _ hn
  obtain ⟨gl,gr⟩:=hg k hk
  have hs:sz l k=(post l (k+1) k).length:=rfl
  have hp:=b5i hg hn
  cases c:ltI 2 (l[k]).kind
  ·rw [c] at hp
   simp at hp
   rw [hs,hp]
   have:=c7q k
   simpa using this
  ·have gl:=gl c
   rw [c] at hp
   simp only [if_true] at hp
   rcases d0c (hf k _ hn) c with ⟨d,e⟩ | ⟨d,e⟩
   ·have o1:=o1 d
    rw [e] at hp
    simp only [Bool.false_eq_true,if_false] at hp
    have ih:=b9v hg hf ho m (l[k]).left.toNat (by omega) (by omega)
    have hs1:sz l (l[k]).left.toNat=(post l ((l[k]).left.toNat+1) (l[k]).left.toNat).length:=rfl
    have hs2:sz l k=sz l (l[k]).left.toNat+1:=by rw [hs,hp,hs1]; simp
    rw [hp]
    refine c7p ?_ ?_
    ·have e1:(k:Int)+1 - sz l k=((l[k]).left.toNat:Nat)+1 - sz l (l[k]).left.toNat:=by omega
     rw [e1]; exact ih
    ·have e1:(k:Int)+1 - sz l k+(post l ((l[k]).left.toNat+1) (l[k]).left.toNat).length=k:=by omega
     rw [e1]; exact c7q _
   ·obtain ⟨o3,o4⟩:=o2 d e
    have gr:=gr e
    rw [e] at hp
    simp only [if_true] at hp
    have ih1:=b9v hg hf ho m (l[k]).left.toNat (by omega) (by omega)
    have ih2:=b9v hg hf ho m (l[k]).right.toNat (by omega) (by omega)
    have hs1:sz l (l[k]).left.toNat=(post l ((l[k]).left.toNat+1) (l[k]).left.toNat).length:=rfl
    have hs3:sz l (l[k]).right.toNat=(post l ((l[k]).right.toNat+1) (l[k]).right.toNat).length:=rfl
    have hs2:sz l k=sz l (l[k]).left.toNat+sz l (l[k]).right.toNat+1:=by rw [hs,hp,hs1,hs3]; simp; omega
    rw [hp]
    refine c7p (c7p ?_ ?_) ?_
    ·have e1:(k:Int)+1 - sz l k=((l[k]).left.toNat:Nat)+1 - sz l (l[k]).left.toNat:=by omega
     rw [e1]; exact ih1
    ·have e1:(k:Int)+1 - sz l k+(post l ((l[k]).left.toNat+1) (l[k]).left.toNat).length=((l[k]).right.toNat:Nat)+1 - sz l (l[k]).right.toNat:=by omega
     rw [e1]; exact ih2
    ·have e1:(k:Int)+1 - sz l k+((post l ((l[k]).left.toNat+1) (l[k]).left.toNat++post l ((l[k]).right.toNat+1) (l[k]).right.toNat).length:Nat)=k:=by
      rw [List.length_append]; omega
     rw [e1]; exact c7q _
theorem c3k {l:List Node} (hg:a4y l) {k:Nat} (hk:k < l.length):∃ X,post l (k+1) k=X++[(k:Int)]:=by
 have hn:l[k]?=some l[k]:=by simp [hk]
 rw [b5i hg hn]
 split
 ·split
  ·exact ⟨_,rfl⟩
  ·exact ⟨_,rfl⟩
 ·exact ⟨[],rfl⟩
theorem b8m {l:List Node} (hg:a4y l) (hf:∀ k n,l[k]?=some n→nodeFaultM n (k:Nat)=0):∀ (m k j:Nat),k < m→k < l.length→(j:Int)∈post l (k+1) k→∃ A B,post l (k+1) k=A++post l (j+1) j++B
 | 0,_,_,h,_,_=>by omega
 | m+1,k,j,h,hk,hj=>by
  have hn:l[k]?=some l[k]:=by simp [hk]
  obtain ⟨gl,gr⟩:=hg k hk
  have hp:=b5i hg hn
  by_cases e:j=k
  ·subst e; exact ⟨[],[],by simp⟩
  cases c:ltI 2 (l[k]).kind
  ·rw [c] at hp
   simp at hp
   rw [hp] at hj
   simp at hj; omega
  ·have gl:=gl c
   rw [c] at hp
   simp only [if_true] at hp
   rcases d0c (hf k _ hn) c with ⟨d,e⟩ | ⟨d,e⟩
   ·rw [e] at hp
    simp only [Bool.false_eq_true,if_false] at hp
    rw [hp] at hj
    have hj2:(j:Int)∈post l ((l[k]).left.toNat+1) (l[k]).left.toNat:=by
     rcases List.mem_append.1 hj with h | h
     ·exact h
     ·simp at h; omega
    obtain ⟨A,B,hab⟩:=b8m hg hf m (l[k]).left.toNat j (by omega) (by omega) hj2
    rw [hp,hab]
    exact ⟨A,B++[(k:Int)],by simp⟩
   ·have gr:=gr e
    rw [e] at hp
    simp only [if_true] at hp
    rw [hp] at hj
    rcases List.mem_append.1 hj with hj | hj
    ·rcases List.mem_append.1 hj with hj | hj
     ·obtain ⟨A,B,hab⟩:=b8m hg hf m (l[k]).left.toNat j (by omega) (by omega) hj
      rw [hp,hab]
      exact ⟨A,B++post l ((l[k]).right.toNat+1) (l[k]).right.toNat++[(k:Int)],by simp⟩
     ·obtain ⟨A,B,hab⟩:=b8m hg hf m (l[k]).right.toNat j (by omega) (by omega) hj
      rw [hp,hab]
      exact ⟨post l ((l[k]).left.toNat+1) (l[k]).left.toNat++A,B++[(k:Int)],by simp⟩
    ·simp at hj; omega
theorem i5h {l:List Node} (hg:a4y l) (_hf:∀ k n,l[k]?=some n→nodeFaultM n (k:Nat)=0) {k:Nat} (hk:k < l.length) {a:Int} (h:Run a (post l (k+1) k)):okk l k:=by
 intro n hn
 have hn':l[k]?=some l[k]:=by simp [hk]
 rw [hn'] at hn
 have hn:=Option.some.inj hn
 subst hn
 obtain ⟨gl,gr⟩:=hg k hk
 have hp:=b5i hg hn'
 refine ⟨fun d=>?_,fun d e=>?_⟩
 ·have c:ltI 2 (l[k]).kind=true:=by simp [eqI] at d; simp [ltI,d]
  have e:inR (l[k]).kind 3 9=false:=by simp [eqI] at d; simp [inR,A1,leI,d]
  have gl:=gl c
  rw [c,e] at hp
  simp only [Bool.false_eq_true,if_false,if_true] at hp
  rw [hp] at h
  obtain ⟨X,hX⟩:=c3k hg (k:=(l[k]).left.toNat) (by omega)
  have h1:=b5y (b0f h)
  rw [hX] at h h1
  have h2:=b5y (b0f (b8l h))
  simp at h1; omega
 ·have c:ltI 2 (l[k]).kind=true:=by simp [inR,A1,leI] at e; simp [ltI]; omega
  have gl:=gl c
  have gr:=gr e
  rw [c,e] at hp
  simp only [if_true] at hp
  rw [hp] at h
  obtain ⟨X,hX⟩:=c3k hg (k:=(l[k]).left.toNat) (by omega)
  obtain ⟨Y,hY⟩:=c3k hg (k:=(l[k]).right.toNat) (by omega)
  have hz:sz l (l[k]).right.toNat=(post l ((l[k]).right.toNat+1) (l[k]).right.toNat).length:=rfl
  have h1:=b5y (b0f h)
  have h3:=b8l h
  have h4:=b0f h3
  have h5:=b8l h3
  rw [hY] at h4
  rw [hX] at h5
  have h6:=b5y (b0f h4)
  have h7:=b5y (b0f h5)
  rw [hX,hY] at h1
  rw [hX] at h6
  rw [hY] at hz
  simp at h1 h6 h7 hz; omega
theorem e1v {l:List Node} (hg:a4y l) (hf:∀ k n,l[k]?=some n→nodeFaultM n (k:Nat)=0):∀ (rest:List Node) (i:Nat) (sizes:List Int) (w:Bool),l.drop i=rest→sizes.length=i→(∀ k,k < i→A4 sizes k=sz l k)→
  (∀ k,k < l.length→A4 (P5 rest i sizes w).1 k=sz l k)∧((P5 rest i sizes w).2=false ↔ w=false∧∀ k,i≤k→k < l.length→okk l k)
 | [],i,sizes,w,h,hs,hz=>by
  have hge:l.length≤i:=by simpa using h
  refine ⟨fun k hk=>hz k (by omega),?_⟩
  simp [P5]
  intro _ k hk; omega
 | n::rest,i,sizes,w,h,hs,hz=>by
  have hi:i < l.length:=by
   rcases Nat.lt_or_ge i l.length with h' | h'
   ·exact h'
   ·rw [List.drop_eq_nil_of_le h'] at h; simp at h
  rw [List.drop_eq_getElem_cons hi] at h
  obtain ⟨hc,hr⟩:=List.cons.inj h
  have hn:l[i]?=some n:=by simp [hi,hc]
  have hfn:=hf i n hn
  obtain ⟨gl,gr⟩:=hg i hi
  rw [hc] at gl gr
  have hp:=b5i hg hn
  have hsi:sz l i=(post l (i+1) i).length:=rfl
  have hz':∀ x:Int,0≤x→x < i→A4 sizes x=sz l x.toNat:=fun x h0 h1=>by
   have:=hz x.toNat (by omega)
   rw [← this]; congr 1; omega
  have hsize:a4r n sizes=sz l i:=by
   unfold a4r
   cases c:ltI 2 n.kind
   ·have c':n.kind≤2:=by simpa [ltI] using c
    rw [c] at hp; simp at hp
    rw [if_neg (by simp [eqI]; omega),if_neg (by simp [inR,A1,leI]; omega),hsi,hp]; rfl
   ·have gl:=gl c
    rw [c] at hp; simp only [if_true] at hp
    rcases d0c hfn c with ⟨d,e⟩ | ⟨d,e⟩
    ·rw [e] at hp
     simp only [Bool.false_eq_true,if_false] at hp
     rw [if_pos d,hz' _ gl.1 gl.2,hsi,hp]
     simp [sz]; omega
    ·have gr:=gr e
     rw [e] at hp
     simp only [if_true] at hp
     rw [if_neg (by simp [d]),if_pos e,hz' _ gl.1 gl.2,hz' _ gr.1 gr.2,hsi,hp]
     simp [sz]; omega
  have hwrong:a8a n i sizes w=false ↔ w=false∧okk l i:=by
   unfold a8a okk
   rw [hn]
   cases d:eqI n.kind 10
   ·cases e:inR n.kind 3 9
    ·simp [e,d]
    ·have c:ltI 2 n.kind=true:=by simp [inR,A1,leI] at e; simp [ltI]; omega
     have gr:=gr e
     rw [hz' _ gr.1 gr.2]
     have d':¬ n.kind=10:=by simpa [eqI] using d
     simp [e,d',orB,A0,eqI,and_assoc]
   ·have d':n.kind=10:=by simpa [eqI] using d
    simp [d',orB,A0,eqI]
  have ih:=e1v hg hf rest (i+1) (sizes++[a4r n sizes]) (a8a n i sizes w) hr (by simp [hs]) (fun k hk=>by
   rcases Nat.lt_or_ge k i with h' | h'
   ·rw [← hz k h']
    unfold A4
    simp [List.getElem?_append,hs,h']
   ·have e:k=i:=by omega
    subst e
    rw [← hsize]
    simp [A4,hs])
  refine ⟨ih.1,?_⟩
  rw [show P5 (n::rest) i sizes w=P5 rest (i+1) (sizes++[a4r n sizes]) (a8a n i sizes w) from rfl,ih.2,hwrong,and_assoc]
  refine and_congr_right fun _=>⟨fun ⟨h1,h2⟩ k hk1 hk2=>?_,fun h=>⟨h i (Nat.le_refl _) hi,fun k hk1 hk2=>h k (by omega) hk2⟩⟩
  rcases Nat.lt_or_ge i k with h' | h'
  ·exact h2 k h' hk2
  ·have e:k=i:=by omega
   subst e; exact h1
theorem c3l:∀ {l:List Node} {i:Nat},N4 i l=0→∀ (k:Nat) (n:Node),l[k]?=some n→nodeFaultM n (i+k:Nat)=0
 | [],i,_,k,n,h=>by simp at h
 | x::l,i,hz,k,n,h=>by
  unfold N4 at hz
  split at hz
  ·rename_i c; rw [hz] at c; simp [A0,eqI] at c
  ·rename_i c
   cases k with
   | zero=>
    simp at h; subst h
    simpa [A0,eqI] using c
   | succ k=>
    have:=c3l hz k n (by simpa using h)
    have e:i+1+k=i+(k+1):=by omega
    rw [← e]; exact this
theorem h0u {n:Node} {i:Nat} (h:nodeFaultM n i=0):(ltI 2 n.kind=true→0≤n.left∧n.left < i)∧(inR n.kind 3 9=true→0≤n.right∧n.right < i):=by
 rw [← c3j] at h
 unfold a2w at h
 split at h
 ·simp at h
 ·split at h
  ·simp at h
  ·split at h
   ·simp at h
   ·split at h
    ·simp at h
    ·rename_i c
     simp [orB,A1,A0,inR,leI] at c
     obtain ⟨c1,c2⟩:=c
     refine ⟨fun h=>?_,fun h=>?_⟩
     ·simp [ltI] at h
      have:=c1 h; omega
     ·simp [inR,A1,leI] at h
      have:=c2 h.1 h.2; omega
theorem c3m (l:List Node):U9 l=a0h l:=by
 unfold U9 a0h
 by_cases hl:1≤l.length∧l.length≤16
 ·have e1:orB (ltI l.length 1) (ltI 16 l.length)=false:=by simp [orB,ltI]; omega
  have e2:A0 (inR l.length 1 16)=false:=by simp [A0,inR,A1,leI]; omega
  rw [e1,e2,d4y]
  simp only [Bool.false_eq_true,if_false]
  by_cases hz:N4 0 l=0
  ·have hf:∀ k n,l[k]?=some n→nodeFaultM n (k:Nat)=0:=fun k n h=>by
    have:=c3l hz k n h; simpa using this
   have hg:a4y l:=fun k hk=>h0u (hf k l[k] (by simp [hk]))
   obtain ⟨w1,w2⟩:=e1v hg hf l 0 [] false rfl rfl (fun k hk=>by omega)
   have hn1:l.length - 1 < l.length:=by omega
   have hf1:post l l.length (l.length - 1)=post l (l.length - 1+1) (l.length - 1):=b4t hg _ _ _ (by omega) (by omega)
   have hsz:sz l (l.length - 1)=(post l (l.length - 1+1) (l.length - 1)).length:=rfl
   have hq:¬ (A0 (eqI (N4 0 l) 0)=true):=by simp [A0,eqI,hz]
   rw [if_neg hq,if_neg hq]
   have ez:A4 (P5 l 0 [] false).1 ((l.length:Int) - 1)=sz l (l.length - 1):=by
    rw [← w1 _ hn1]; congr 1; omega
   rw [ez]
   by_cases ok:(∀ k,k < l.length→okk l k)∧sz l (l.length - 1)=l.length
   ·obtain ⟨ok1,ok2⟩:=ok
    have hr:=b9v hg hf ok1 l.length (l.length - 1) hn1 hn1
    have ho:a0f l=post l (l.length - 1+1) (l.length - 1):=by
     unfold a0f
     rw [b7s l _ _ _ (by rw [hf1]; simp; omega),hf1]; rfl
    have e3:(P5 l 0 [] false).2=false:=w2.2 ⟨rfl,fun k _ h=>ok1 k h⟩
    have e5:(a0f l).length=l.length:=by rw [ho]; omega
    have e4:a2x 0 (a0f l)=true:=by
     rw [c1m,ho]
     have:(((l.length - 1:Nat):Int)+1 - sz l (l.length - 1))=((0:Nat):Int):=by omega
     rw [← this]; exact hr
    simp [e3,e4,e5,ok2,orB,A0,eqI]
   ·have e3:orB (P5 l 0 [] false).2 (A0 (eqI (sz l (l.length - 1)) (l.length:Int)))=true:=by
     unfold orB A0 eqI
     cases hw:(P5 l 0 [] false).2
     ·simp
      intro h
      exact ok ⟨fun k hk=>(w2.1 hw).2 k (by omega) hk,h⟩
     ·rfl
    refine Eq.trans ?_ (if_pos e3).symm
    by_cases c:(a0f l).length=l.length
    rotate_left
    ·rw [if_pos (by simp [A0,eqI]; omega)]
    ·rw [if_neg (by simp [A0,eqI,c]),if_neg]
     intro hi
     have ho:a0f l=post l (l.length - 1+1) (l.length - 1):=by
      unfold a0f at c ⊢
      rw [b7e l _ _ _ (by omega),hf1]; rfl
     rw [c1m,ho] at hi
     have hall:∀ k,k < l.length→okk l k:=fun k hk=>by
      have hm:(k:Int)∈post l (l.length - 1+1) (l.length - 1):=by
       have hk2:k < (post l (l.length - 1+1) (l.length - 1)).length:=by rw [← ho]; omega
       have:=hi k _ (List.getElem?_eq_getElem hk2)
       simp at this
       rw [← this]; exact List.getElem_mem _
      obtain ⟨A,B,hab⟩:=b8m hg hf l.length (l.length - 1) k hn1 hn1 hm
      rw [hab] at hi
      exact i5h hg hf hk (b0f (b8l hi))
     exact ok ⟨hall,by rw [hsz,← ho,c]⟩
  ·have:A0 (eqI (N4 0 l) 0)=true:=by simp [A0,eqI,hz]
   simp [this]
 ·have e1:orB (ltI l.length 1) (ltI 16 l.length)=true:=by simp [orB,ltI]; omega
  have e2:A0 (inR l.length 1 16)=true:=by simp [A0,inR,A1,leI]; omega
  simp [e1,e2]
theorem g8b {l:List Node} (hz:N4 0 l=0):∀ n,n∈l→1≤n.kind∧n.kind≤10:=fun n hn=>by
 obtain ⟨k,hk,he⟩:=List.getElem_of_mem hn
 have h:=c3l hz k n (by simp [hk,he])
 rw [← c3j] at h
 unfold a2w at h
 split at h
 ·simp at h
 ·rename_i c
  simp [A0,inR,A1,leI] at c
  exact c
theorem h0v {k:Int} (h:k≤10):(partB k).1=a8i k∧(partB k).2=is4 k:=by
 unfold partB a8i is4
 simp only [leI,eqI,orB]
 by_cases a:k≤6
 ·have b:¬ k=9:=by omega
  have c:¬ k=10:=by omega
  have d:¬ 7≤k:=by omega
  simp [a,b,c,d]
 ·by_cases b:k≤8
  ·have b':¬ k=9:=by omega
   have c:¬ k=10:=by omega
   have d:7≤k:=by omega
   simp [a,b,b',c,d]
  ·have d:7≤k:=by omega
   have e:k=9∨k=10:=by omega
   simp [a,b,d]
   omega
theorem d4z:∀ (l:List Node) (acc:List Int),(∀ n,n∈l→1≤n.kind∧n.kind≤10)→M7 l acc=L4 l acc
 | [],_,_=>rfl
 | n::l,acc,h=>by
  obtain ⟨h1,h2⟩:=h0v (h n (by simp)).2
  have e:a2q n acc=a7d n acc:=by
   unfold a2q a7d
   rw [h1]; rfl
  unfold M7 L4
  rw [e,h2,d4z l _ fun n hn=>h n (by simp [hn])]
theorem h0w (l:List Node):a4p l=((a2c l).2,(a2c l).1):=by
 unfold a4p a2c
 rw [c3m]
 by_cases h:a0h l=0
 ·have hq:¬ (A0 (eqI (a0h l) 0)=true):=by simp [A0,eqI,h]
  have hz:N4 0 l=0:=by
   unfold a0h at h
   split at h
   ·simp at h
   ·split at h
    ·rename_i c; rw [h] at c; simp [A0,eqI] at c
    ·rename_i c; simpa [A0,eqI] using c
  rw [if_neg hq,if_neg hq,d4z l [] (g8b hz)]
  split <;> rfl
 ·have hq:A0 (eqI (a0h l) 0)=true:=by simp [A0,eqI,h]
  rw [if_pos hq,if_pos hq]
theorem d5a (l:List Node) (want:Int):a2y l want=U3 l want:=by
 unfold a2y U3 B5
 rw [h0w]
 simp only
 by_cases h0:eqI l.length 0=true
 ·rw [if_pos h0,if_pos h0]
 rw [if_neg h0,if_neg h0]
 by_cases h:(a2c l).1=0
 ·have hq:¬ (A0 (eqI (a2c l).1 0)=true):=by simp [A0,eqI,h]
  have hq2:eqI (a2c l).1 0=true:=by simp [eqI,h]
  rw [if_neg hq,if_pos hq2]
 ·have hq:A0 (eqI (a2c l).1 0)=true:=by simp [A0,eqI,h]
  have hq2:¬ eqI (a2c l).1 0=true:=by simp [eqI,h]
  rw [if_pos hq,if_neg hq2]
theorem h0x (s:ByteArray):a9k s=b3i s:=by
 unfold a9k b3i B5
 cases h1:W0 s.data.toList <;> cases h2:eqS s emp <;> simp [orB,A0,eqI]
theorem c5k {l:List Step} {p:Int} {i:Nat} (hi:i≤l.length) (ha:Ahead l i):∀ (g:Nat) (at_:Int),-1≤at_→at_ < i→at_ < p→Q8 l p g at_=false
 | 0,_,_,_,_=>rfl
 | g+1,at_,h1,h2,h3=>by
  unfold Q8
  by_cases h:0≤at_
  ·have hk:at_.toNat < l.length:=by omega
   obtain ⟨a1,a2⟩:=ha at_.toNat hk (by omega)
   have hp:parOf l at_.toNat=(l[at_.toNat]).parent:=by simp [parOf,hk]
   rw [if_pos (by simp [leI,h]),if_neg (by simp [eqI]; omega),hp]
   exact c5k hi ha g _ a1 (by omega) (by omega)
  ·rw [if_neg (by simp [leI]; omega)]
theorem d5b {l:List Step} {p:Int} {i:Nat} {list:List Int} (hi:i≤l.length) (ha:Ahead l i) (hl:list.length=i) (hq:∀ k,k < i→list[k]?=some (parOf l k)) (hp0:0≤p):
  ∀ (f g:Nat) (at_:Int),-1≤at_→at_ < i→at_ < f→at_ < g→(a1y list p f at_=p ↔ Q8 l p g at_=true)
 | 0,g,at_,h1,h2,h3,h4=>by
  have e:at_=-1:=by omega
  rw [c5k hi ha g at_ h1 h2 (by omega)]
  simp [a1y]; omega
 | f+1,0,at_,h1,h2,h3,h4=>by
  have e:at_=-1:=by omega
  subst e
  have:ltI p (-1)=false:=by simp [ltI]; omega
  simp [a1y,Q8,this]; omega
 | f+1,g+1,at_,h1,h2,h3,h4=>by
  rcases Int.lt_trichotomy at_ p with h | h | h
  ·rw [c5k hi ha (g+1) at_ h1 h2 h]
   have:ltI p at_=false:=by simp [ltI]; omega
   simp [a1y,this]; omega
  ·subst h
   have:ltI at_ at_=false:=by simp [ltI]
   simp [a1y,Q8,this,leI,hp0,eqI]
  ·have hk:at_.toNat < l.length:=by omega
   obtain ⟨a1,a2⟩:=ha at_.toNat hk (by omega)
   have hp:parOf l at_.toNat=(l[at_.toNat]).parent:=by simp [parOf,hk]
   have e1:ltI p at_=true:=by simp [ltI]; omega
   have e2:list.getD at_.toNat (-1)=parOf l at_.toNat:=by rw [List.getD_eq_getElem?_getD,hq at_.toNat (by omega)]; rfl
   have e3:leI 0 at_=true:=by simp [leI]; omega
   have e4:eqI at_ p=false:=by simp [eqI]; omega
   unfold a1y Q8
   rw [e1,e3,e4,e2]
   simp only [if_true,Bool.false_eq_true,if_false]
   exact d5b hi ha hl hq hp0 f g _ (by omega) (by omega) (by omega) (by omega)
theorem c3n {l:List Step} {i:Nat} (hi:i≤l.length) (ha:Ahead l i):∀ (f g:Nat) (at_:Int),-1≤at_→at_ < i→at_ < f→at_ < g→deepM l f at_=deepM l g at_
 | 0,g,at_,h1,h2,h3,h4=>by
  have e:at_=-1:=by omega
  subst e
  cases g <;> simp [deepM,leI]
 | f+1,0,at_,h1,h2,h3,h4=>by
  have e:at_=-1:=by omega
  subst e
  simp [deepM,leI]
 | f+1,g+1,at_,h1,h2,h3,h4=>by
  unfold deepM
  by_cases h:0≤at_
  ·have hk:at_.toNat < l.length:=by omega
   obtain ⟨a1,a2⟩:=ha at_.toNat hk (by omega)
   have hp:parOf l at_.toNat=(l[at_.toNat]).parent:=by simp [parOf,hk]
   rw [c3n hi ha f g (parOf l at_.toNat) (by omega) (by omega) (by omega) (by omega)]
  ·rw [if_neg (by simp [leI]; omega),if_neg (by simp [leI]; omega)]
theorem d7l (k:Int):eqI (P8 k).2 0=A0 (inR k 5 8):=by
 unfold P8
 by_cases h5:k=5
 ·subst h5; rfl
 by_cases h6:k=6
 ·subst h6; rfl
 by_cases h7:k=7
 ·subst h7; rfl
 by_cases h8:k=8
 ·subst h8; rfl
 have:¬ (5≤k∧k≤8):=by omega
 simp [A0,inR,A1,eqI,leI,h5,h6,h7,h8]
 omega
theorem d5c (s:Step):A0 (a8j s)=a3z s:=by
 unfold a8j a3z
 rw [d7l]
 have hx:ltI 0 s.expr.length=A0 (eqI s.expr.length 0):=by
  cases s.expr <;> simp [ltI,A0,eqI]; omega
 rw [hx]
 cases eqI s.kind 2 <;> cases eqS s.name emp <;> cases inR s.kind 5 8 <;> cases eqI s.arg 0 <;> cases eqI s.kind 7 <;> cases eqI s.expr.length 0 <;> rfl
structure Left (l:List Step) (i:Nat) (list deep:List Int):Prop where
 le:i≤l.length
 ahead:Ahead l i
 tree:Tree list
 len:list.length=i
 dlen:deep.length=i
 at_:∀ k,k < i→list[k]?=some (parOf l k)
 deeps:∀ k,k < i→deep[k]?=some (deepM l (k+2) k)
 bd:∀ d,d∈deep→0≤d∧d≤list.length
theorem d7m {l:List Step} {i:Nat} {list deep:List Int} (h:Left l i list deep) (hi:i < l.length) (h1:-1≤parOf l i) (h2:parOf l i < i):a0a deep (parOf l i)=deepM l (i+2) i:=by
 have e:deepM l (i+2) i=1+deepM l (i+1) (parOf l i):=by
  conv=>lhs; unfold deepM
  rw [if_pos (by simp [leI])]; simp
 rw [e]
 unfold a0a
 by_cases h0:0≤parOf l i
 ·have hk:=h.deeps (parOf l i).toNat (by omega)
  rw [if_pos (by simp [leI,h0]),List.getD_eq_getElem?_getD,hk]
  have:=c3n h.le h.ahead ((parOf l i).toNat+2) (i+1) (parOf l i) h1 h2 (by omega) (by omega)
  have e2:(((parOf l i).toNat:Nat):Int)=parOf l i:=by omega
  simp only [Option.getD_some,e2,this]; omega
 ·rw [if_neg (by simp [leI]; omega)]
  have e:parOf l i=-1:=by omega
  rw [e]
  cases i <;> simp [deepM,leI]
theorem h0y (s:Step) (_hk:inR s.kind 1 8=true) (ha:a3z s=false) (h2:¬ s.kind=2):a6x s=b1g s:=by
 unfold a6x b1g ci
 rw [c3m]
 by_cases h7:s.kind=7
 ·have e:W6 s.kind s.arg=inR s.arg 0 3:=by simp [W6,h7,eqI]
  have e2:P8 s.kind=(0,3):=by simp [P8,h7,eqI]
  rw [e,e2]
  simp only [h7]
  cases inR s.arg 0 3 <;> simp [A0,eqI,B5]
 ·have e:W6 s.kind s.arg=inR s.arg (P8 s.kind).1 (P8 s.kind).2:=by
   by_cases h5:s.kind=5
   ·simp [W6,P8,h5,eqI]
   by_cases h6:s.kind=6∨s.kind=8
   ·rcases h6 with h6 | h6 <;> simp [W6,P8,h6,eqI]
   ·have h6':¬ s.kind=6:=by omega
    have h8':¬ s.kind=8:=by omega
    have ha0:s.arg=0:=by
     unfold a3z at ha
     rw [d7l] at ha
     have:inR s.kind 5 8=false:=by simp [inR,A1,leI]; omega
     simp [this,orB,A1,A0,eqI] at ha
     exact ha.1.2
    simp [W6,P8,h5,h6',h8',h7,eqI,ha0,inR,A1,leI]
  rw [e]
  simp only [eqI]
  cases inR s.arg (P8 s.kind).1 (P8 s.kind).2 <;> simp [A0,h7,h2]
theorem h4m {l:List Step} {i:Nat} {list deep:List Int} (h:Left l i list deep) (hi:i < l.length):one4M l i l[i]=V1 l[i] list deep:=by
 have hp:parOf l i=(l[i]).parent:=by simp [parOf,hi]
 unfold one4M V1
 by_cases c1:orB (A0 (inR (l[i]).kind 1 8)) (A0 (a8j l[i]))=true
 ·have c1':=c1
  rw [d5c] at c1'
  have e:a1k l[i] list deep=1:=by simp [a1k,ci,c1',B5,eqI]
  rw [if_pos c1,e]; rfl
 rw [if_neg c1]
 rw [d5c] at c1
 have hk:inR (l[i]).kind 1 8=true:=by
  cases h:inR (l[i]).kind 1 8
  ·rw [h] at c1; exact absurd rfl c1
  ·rfl
 have ha:a3z l[i]=false:=by
  rw [hk] at c1
  simpa [orB,A0] using c1
 have eA:a1k l[i] list deep=(L6 list deep (l[i]).parent).1:=by simp [a1k,ci,hk,ha,orB,A0,B5,eqI]
 rw [eA]
 have ebad:a1d list (l[i]).parent=a1p l[i] i:=by unfold a1d a1p; rw [h.len]
 by_cases c2:a1p l[i] i=true
 ·have e:(L6 list deep (l[i]).parent).1=3:=by unfold L6; rw [ebad,if_pos c2]
  rw [if_pos c2,e]; rfl
 rw [if_neg c2]
 have c2':a1p l[i] i=false:=by simpa using c2
 obtain ⟨p1,p2⟩:-1≤(l[i]).parent∧(l[i]).parent < i:=by
  unfold a1p at c2'
  simp only [orB,A1,A0,inR,leI,ltI,eqI,Bool.or_eq_false_iff,Bool.and_eq_false_iff,Bool.not_eq_false',decide_eq_true_eq,decide_eq_false_iff_not,beq_eq_false_iff_ne,beq_iff_eq,Bool.and_eq_true] at c2'
  omega
 have ecl:A0 (eqI (a1y list (l[i]).parent list.length (list.length - 1)) (l[i]).parent)=A1 (ltI 0 (i:Int)) (A0 (a9u l i)):=by
  rw [h.len]
  rcases Nat.eq_zero_or_pos i with h0 | h0
  ·have e:(l[i]).parent=-1:=by omega
   rw [e,h0]; rfl
  ·have p0:0≤(l[i]).parent:=by
    unfold a1p at c2'
    simp only [orB,A1,A0,inR,leI,ltI,eqI,Bool.or_eq_false_iff,Bool.and_eq_false_iff,Bool.not_eq_false',decide_eq_true_eq,decide_eq_false_iff_not,beq_eq_false_iff_ne,beq_iff_eq,Bool.and_eq_true] at c2'
    omega
   have:=d5b h.le h.ahead h.len h.at_ p0 i (i+1) ((i:Int) - 1) (by omega) (by omega) (by omega) (by omega)
   have e1:ltI 0 (i:Int)=true:=by simp [ltI]; omega
   unfold a9u
   rw [hp,e1]
   cases hl:Q8 l (l[i]).parent (i+1) ((i:Int) - 1)
   ·rw [hl] at this
    simp at this
    simp [A0,A1,eqI,this]
   ·rw [hl] at this
    simp at this
    simp [A0,A1,eqI,this]
 by_cases c3:A1 (ltI 0 (i:Int)) (A0 (a9u l i))=true
 ·have e:(L6 list deep (l[i]).parent).1=1:=by unfold L6; rw [ebad,if_neg c2,ecl,if_pos c3]
  rw [if_pos c3,e]; rfl
 rw [if_neg c3]
 have e:(L6 list deep (l[i]).parent).1=0:=by unfold L6; rw [ebad,if_neg c2,ecl,if_neg c3]
 have hq:¬ A0 (eqI (0:Int) 0)=true:=by simp [A0,eqI]
 rw [e,if_neg hq]
 have ed:=d7m h hi (by omega) (by omega)
 rw [hp] at ed
 rw [ed]
 unfold a8k ci
 by_cases c4:ltI 7 (deepM l (i+2) i)=true
 ·rw [if_pos c4,if_pos c4]; rfl
 rw [if_neg c4,if_neg c4,if_neg hq]
 by_cases c5:(l[i]).kind=2
 ·have hq5:eqI (l[i]).kind 2=true:=by simp [eqI,c5]
  unfold b1g
  rw [if_pos hq5,if_pos hq5,h0x]
  by_cases c6:b3i (l[i]).name=0
  ·rw [c6,if_neg hq]
   simp [a6x,c5,W6,eqI,A0]
  ·rw [if_pos (by simp [A0,eqI,c6])]
 ·rw [if_neg (by simp [eqI,c5])]
  exact h0y _ hk ha c5
theorem h0z {l:List Step} {i:Nat} {list deep:List Int} (h:Left l i list deep) (hi:i < l.length) (hz:V1 l[i] list deep=0):
  (L6 list deep (l[i]).parent).2.1=list++[(l[i]).parent]∧(L6 list deep (l[i]).parent).2.2=deep++[a0a deep (l[i]).parent]∧
  Left l (i+1) (list++[(l[i]).parent]) (deep++[a0a deep (l[i]).parent]):=by
 obtain ⟨n1,n2,n3,n4,n5⟩:=c3h hz h.tree (by rw [h.dlen,h.len]) h.bd
 have hp:parOf l i=(l[i]).parent:=by simp [parOf,hi]
 rw [h.len] at n4
 refine ⟨by rw [n1],by rw [n1],?_⟩
 have ed:=d7m h hi (by omega) (by omega)
 rw [hp] at ed
 constructor
 ·omega
 ·intro k hk1 hk2
  rcases Nat.lt_or_ge k i with h' | h'
  ·exact h.ahead k hk1 h'
  ·have e:k=i:=by omega
   subst e; exact ⟨n3,n4⟩
 ·exact n2
 ·simp [h.len]
 ·simp [h.dlen]
 ·intro k hk
  rcases Nat.lt_or_ge k i with h' | h'
  ·rw [List.getElem?_append_left (by rw [h.len]; exact h')]; exact h.at_ k h'
  ·have e:k=i:=by omega
   subst e
   rw [List.getElem?_append_right (by rw [h.len]; omega)]; simp [h.len,hp]
 ·intro k hk
  rcases Nat.lt_or_ge k i with h' | h'
  ·rw [List.getElem?_append_left (by rw [h.dlen]; exact h')]; exact h.deeps k h'
  ·have e:k=i:=by omega
   subst e
   rw [List.getElem?_append_right (by rw [h.dlen]; omega)]; simp [h.dlen,ed]
 ·exact n5
theorem d7n {l:List Step}:∀ (rest:List Step) (i:Nat) (list deep:List Int),l.drop i=rest→Left l i list deep→
  V2 l i rest=(N7 rest list deep).1∧(V2 l i rest=0→Ahead l l.length)
 | [],i,list,deep,h,hl=>by
  have hge:l.length≤i:=by simpa using h
  have e:i=l.length:=by have:=hl.le; omega
  subst e
  exact ⟨rfl,fun _=>hl.ahead⟩
 | s::rest,i,list,deep,h,hl=>by
  obtain ⟨hi,hc,hr⟩:=C6 h
  subst hc
  have e:=h4m hl hi
  unfold V2 N7
  rw [e]
  by_cases hz:V1 l[i] list deep=0
  ·obtain ⟨e1,e2,hl2⟩:=h0z hl hi hz
   rw [if_pos (by simp [eqI,hz]),if_neg (by simp [A0,eqI,hz]),e1,e2]
   exact d7n rest (i+1) _ _ hr hl2
  ·rw [if_neg (by simp [eqI,hz]),if_pos (by simp [A0,eqI,hz])]
   exact ⟨rfl,fun h=>absurd h hz⟩
theorem c3o {p:Int}:∀ (r:List Step) (i:Nat),(i=0→∀ s,r[0]?=some s→s.parent≠p)→A7 p i r=B9 p i r
 | [],_,_=>rfl
 | s::r,i,h=>by
  unfold A7 B9
  rw [c3o r (i+1) (fun h0 s' _=>absurd h0 (by omega))]
  by_cases h0:i=0
  ·have:=h h0 s (by simp)
   have e1:eqI s.parent p=false:=by simp [eqI,this]
   simp [e1,A1]
  ·have e1:ltI 0 (i:Int)=true:=by simp [ltI]; omega
   simp [e1,A1]
theorem c5l (p:Int):∀ (r:List Step) (i:Nat),(B9 p i r).length≤r.length
 | [],_=>Nat.le_refl _
 | s::r,i=>by
  have:=c5l p r (i+1)
  unfold B9
  split
  ·simp; omega
  ·simp; omega
theorem h1a {k n:Int} (_h0:0≤n) (h:n≤24):inR n (N8 k).1 (N8 k).2=a4s k n:=by
 unfold N8 a4s
 by_cases h1:k=1
 ·have:n≤24:=h
  simp [h1,eqI,inR,A1,leI,this]
 by_cases h3:k=3
 ·simp [h3,eqI,inR,A1,leI,orB,h]
 by_cases h4:k=4
 ·simp [h4,eqI,inR,A1,leI,orB,h]
 have hx:∀ m:Int,inR n m m=eqI n m:=fun m=>by
  unfold inR A1 leI eqI
  by_cases a:n=m
  ·simp [a]
  ·have e:(n==m)=false:=by simp [a]
   rw [e]
   have:¬ (m≤n∧n≤m):=by omega
   simp
   intro h; omega
 by_cases h8:k=8
 ·simp [h8,eqI,hx,orB]
 ·have q1:eqI k 1=false:=by simp [eqI,h1]
  have q3:eqI k 3=false:=by simp [eqI,h3]
  have q4:eqI k 4=false:=by simp [eqI,h4]
  have q8:eqI k 8=false:=by simp [eqI,h8]
  simp [q1,q3,q4,q8,orB,hx]
theorem h1b {l:List Step} (hl:l.length≤24) (h0:parOf l 0=-1) (hp:∀ k,0 < k→k < l.length→0≤parOf l k) {i:Nat} (hi:i < l.length):a8z l i l[i]=condFaultM l i:=by
 have hk:∀ p:Int,0≤p→A7 p 0 l=B9 p 0 l:=fun p hp=>c3o l 0 fun _ s hs=>by
  have:parOf l 0=s.parent:=by simp [parOf,hs]
  omega
 have hcond:a4j l i=ltI 0 (l[i]).cond.length:=by simp [a4j,hi]
 have hco:condOf l i=(l[i]).cond:=by simp [condOf,hi]
 have hkind:A9 l i=(l[i]).kind:=by simp [A9,hi]
 have hwant:a8b l i=a6u l i:=by
  unfold a8b a6u
  rcases Nat.eq_zero_or_pos i with e | e
  ·subst e
   rw [if_pos (by simp [orB,eqI]),if_pos (by rw [h0]; simp [orB,ltI])]
  ·have h1:=hp i e hi
   have e1:eqI (i:Int) 0=false:=by simp [eqI]; omega
   have e2:ltI (parOf l i) 0=false:=by simp [ltI]; omega
   rw [e1,e2,hk _ h1]
   have:∀ a b:Int,eqI a b=eqI b a:=fun a b=>by simp [eqI,Bool.beq_comm]
   rw [this (i:Int)]
 have hn:=c5l i l 0
 unfold a8z condFaultM b0k kidsN
 rw [hcond,hco,hkind,hwant,hk i (by omega),h1a (by omega) (by omega),c3m]
 cases a4s (l[i]).kind (B9 i 0 l).length
 ·simp [A0,B5,eqI,orB]
 ·cases a6u l i <;> cases ltI 0 (l[i]).cond.length <;> simp [A0,B5,eqI,eqB,orB]
theorem d5d {l:List Step} (hl:l.length≤24) (h0:parOf l 0=-1) (hp:∀ k,0 < k→k < l.length→0≤parOf l k):∀ (rest:List Step) (i:Nat),l.drop i=rest→a1f l i rest=a0v l rest.length i
 | [],i,h=>rfl
 | s::rest,i,h=>by
  obtain ⟨hi,hc,hr⟩:=C6 h
  subst hc
  have e:=h1b hl h0 hp hi
  unfold a1f
  rw [e,List.length_cons]
  unfold a0v
  rw [d5d hl h0 hp rest (i+1) hr]
  by_cases hz:condFaultM l i=0
  ·rw [if_pos (by simp [eqI,hz]),if_neg (by simp [A0,eqI,hz])]
  ·rw [if_neg (by simp [eqI,hz]),if_pos (by simp [A0,eqI,hz])]
theorem c3p:∀ (l:List Step),a3g l=procC l
 | []=>rfl
 | s::l=>by
  unfold a3g procC a6v B5
  rw [d5a,d5a,c3p l]
  by_cases h1:U3 s.cond 2=0
  ·have q:eqI (U3 s.cond 2) 0=true:=by simp [eqI,h1]
   rw [if_pos q]
   by_cases h2:U3 s.expr 1=0
   ·rw [if_pos (by simp [eqI,h2]),if_neg (by simp [A0,eqI,h2])]
   ·rw [if_neg (by simp [eqI,h2]),if_pos (by simp [A0,eqI,h2])]
  ·have q:¬ eqI (U3 s.cond 2) 0=true:=by simp [eqI,h1]
   rw [if_neg q,if_neg q,if_pos (by simp [A0,eqI,h1])]
theorem g6n {l:List Step} {s:Step} (h:one4M l 0 s=0):s.parent=-1:=by
 unfold one4M at h
 split at h
 ·simp at h
 ·split at h
  ·simp at h
  ·rename_i c
   simp [a1p,orB,A1,A0,eqI,ltI] at c
   exact c
theorem g8c {l:List Step} {i:Nat} {s:Step} (h:one4M l i s=0) (hi:0 < i):0≤s.parent:=by
 unfold one4M at h
 split at h
 ·simp at h
 ·split at h
  ·simp at h
  ·rename_i c
   have c:a1p s i=false:=by simpa using c
   unfold a1p at c
   simp only [orB,A1,A0,inR,leI,ltI,eqI,Bool.or_eq_false_iff,Bool.and_eq_false_iff,Bool.not_eq_false',decide_eq_true_eq,decide_eq_false_iff_not,beq_eq_false_iff_ne,beq_iff_eq,Bool.and_eq_true] at c
   omega
theorem b9a {l:List Step}:∀ {r:List Step} {i:Nat},V2 l i r=0→∀ (k:Nat) (s:Step),r[k]?=some s→one4M l (i+k) s=0
 | [],i,_,k,n,h=>by simp at h
 | x::r,i,hz,k,s,h=>by
  unfold V2 at hz
  split at hz
  ·rename_i hc
   cases k with
   | zero=>simp at h; subst h; simpa [eqI] using hc
   | succ k=>
    have:=b9a hz k s (by simpa using h)
    have e:i+1+k=i+(k+1):=by omega
    rw [← e]; exact this
  ·rename_i hc; exact absurd (by simp [eqI,hz]) hc
theorem c2k (l:List Step):V6 l=P6 l:=by
 unfold V6 P6
 by_cases hl:1≤l.length∧l.length≤24
 ·have e1:¬ orB (ltI l.length 1) (ltI 24 l.length)=true:=by simp [orB,ltI]; omega
  have e2:¬ A0 (inR l.length 1 24)=true:=by simp [A0,inR,A1,leI]; omega
  rw [if_neg e1,if_neg e2]
  obtain ⟨o1,o2⟩:=d7n (l:=l) l 0 [] [] rfl ⟨Nat.zero_le _,fun k _ h=>by omega,fun k h=>by simp at h,rfl,rfl,fun k h=>by omega,fun k h=>by omega,by simp⟩
  rw [o1] at o2 ⊢
  by_cases hz:(N7 l [] []).1=0
  ·have hz1:V2 l 0 l=0:=by rw [o1,hz]
   have ha:=o2 hz
   have h0:parOf l 0=-1:=by
    have h:=b9a hz1 0 l[0] (by simp)
    have:=g6n h
    have e:l[0]?=some l[0]:=by simp
    simp only [parOf,e,this]
   have hp:∀ k,0 < k→k < l.length→0≤parOf l k:=fun k h1 h2=>by
    have h:=b9a hz1 k l[k] (by simp [h2])
    have:=g8c h (by omega)
    simp [parOf,h2,this]
   have hs:=d5d hl.2 h0 hp l 0 rfl
   have q:eqI (N7 l [] []).1 0=true:=by simp [eqI,hz]
   have q2:¬ A0 (eqI (N7 l [] []).1 0)=true:=by simp [A0,eqI,hz]
   rw [if_pos q,if_neg q2,hs,c3p]
   by_cases hb:a0v l l.length 0=0
   ·rw [if_pos (by simp [eqI,hb]),if_neg (by simp [A0,eqI,hb])]
    by_cases hc:procC l=0
    ·rw [if_neg (by simp [A0,eqI,hc]),hc]
    ·rw [if_pos (by simp [A0,eqI,hc])]
   ·rw [if_neg (by simp [eqI,hb]),if_pos (by simp [A0,eqI,hb])]
  ·rw [if_neg (by simp [eqI,hz]),if_pos (by simp [A0,eqI,hz])]
 ·have e1:orB (ltI l.length 1) (ltI 24 l.length)=true:=by simp [orB,ltI]; omega
  have e2:A0 (inR l.length 1 24)=true:=by simp [A0,inR,A1,leI]; omega
  rw [if_pos e1,if_pos e2]
end Go.TM.Ft
