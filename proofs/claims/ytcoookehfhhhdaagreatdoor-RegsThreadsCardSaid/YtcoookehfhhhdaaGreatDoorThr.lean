/- Code whose jumps are threaded, told plainly: it is sound, and threaded again it is the same. No program in sight. Lists of functions whose code is threaded, told plainly: they are right and sound, and threaded again they are alike. No program in sight. -/
import Derived.Test.YtcoookehfhhhdaaGreatDoorUns
import Derived.Deep.Slices
namespace Go.Proofs.YtcoookehfhhhdaaGreatDoor.c
set_option linter.unusedVariables false
set_option linter.unusedSimpArgs false

def xI (c:List Cd) (i:Int):Cd:=c.getD i.toNat default
def isJ (c:List Cd) (i:Int):Bool:=(xI c i).op == 14
def nxt (c:List Cd) (i:Int):Int:=(xI c i).a
def lastF (c:List Cd):Nat → List Int → Int → Int
 | 0,_,at'=>at'
 | n + 1,met,at'=>if isJ c at'=true∧at' ∉ met then lastF c n (at' :: met) (nxt c at') else at'
def lastS (c:List Cd) (at':Int):Int:=lastF c (c.length + 1) [] at'
def inC (c:List Cd) (i:Int):Prop:=0 ≤ i∧i < c.length
theorem xI_mem {c:List Cd} {i:Int} (h:inC c i):xI c i ∈ c:=getD_mem (by have:=h.1; have:=h.2; omega)
theorem J_leads {c:List Cd} {i:Int} (h:isJ c i=true):leadsS (xI c i).op=true:=by
 unfold isJ at h
 rw [eq_of_beq h]; rfl
theorem nxt_in {c:List Cd} (s:Sane c) {i:Int} (h:inC c i) (hj:isJ c i=true):inC c (nxt c i):=(s.each _ (xI_mem h)).2.2 (J_leads hj)
def it (c:List Cd):Nat → Int → Int
 | 0,e=>e
 | j + 1,e=>nxt c (it c j e)
theorem it_add (c:List Cd) (i j:Nat) (e:Int):it c (i + j) e=it c i (it c j e):=by
 induction i with
 | zero=>rw [Nat.zero_add]; rfl
 | succ i ih=>rw [show i + 1 + j=(i + j) + 1 by omega]; show nxt c (it c (i + j) e)=nxt c (it c i (it c j e)); rw [ih]
def Jn (c:List Cd) (i e:Int) (m:Nat):Prop:=it c m i=e∧∀ j,j < m → isJ c (it c j i)=true
theorem Jn.snoc {c:List Cd} {i e:Int} {m:Nat} (h:Jn c i e m) (hj:isJ c e=true):Jn c i (nxt c e) (m + 1):=by
 refine ⟨show nxt c (it c m i)=_ by rw [h.1],fun j hj2=>?_⟩
 rcases Nat.lt_or_ge j m with h2 | h2
 ·exact h.2 j h2
 ·obtain rfl:j=m:=by omega
  rw [h.1]; exact hj
theorem Jn.in_ {c:List Cd} (s:Sane c) {i e:Int} {m:Nat} (h:Jn c i e m) (hi:inC c i):inC c e:=by
 have:∀ j,j ≤ m → inC c (it c j i):=by
  intro j
  induction j with
  | zero=>exact fun _=>hi
  | succ j ih=>exact fun hj=>nxt_in s (ih (by omega)) (h.2 j (by omega))
 rw [← h.1]
 exact this m (Nat.le_refl _)
theorem in_len {c:List Cd} {l:List Int} (nd:l.Nodup) (h:∀ i ∈ l,inC c i):l.length ≤ c.length:=by
 have h1:=nodup_len c.length (l.map Int.toNat) ?_ ?_
 ·simpa using h1
 ·unfold List.Nodup
  rw [List.pairwise_map]
  refine nd.imp_of_mem ?_
  intro p q hp hq hne e
  have:=h p hp; have:=h q hq
  unfold inC at *
  omega
 ·intro x hx
  obtain ⟨i,hi,rfl⟩:=List.mem_map.1 hx
  have:=h i hi
  unfold inC at this
  omega
structure LsInv (c:List Cd) (a:Int) (n:Nat) (met:List Int) (at':Int):Prop where
 nd:met.Nodup
 all:∀ i ∈ met,inC c i
 at_:inC c at'
 sum:n + met.length=c.length + 1
 way:∃ m,Jn c a at' m
 back:∀ i ∈ met,∃ m,0 < m∧Jn c i at' m
 eq:lastF c n met at'=lastS c a
theorem LsInv.start {c:List Cd} {a:Int} (h:inC c a):LsInv c a (c.length + 1) [] a :=
 ⟨List.nodup_nil,fun i hi=>(by cases hi),h,by simp,⟨0,rfl,fun j hj=>by omega⟩,fun i hi=>(by cases hi),rfl⟩
theorem LsInv.pos {c:List Cd} {a at':Int} {n:Nat} {met:List Int} (v:LsInv c a n met at'):0 < n:=by
 have:=in_len v.nd v.all
 have:=v.sum
 omega
theorem LsInv.next {c:List Cd} (s:Sane c) {a at':Int} {n:Nat} {met:List Int} (v:LsInv c a (n + 1) met at') (hj:isJ c at'=true) (hm:at' ∉ met):LsInv c a n (at' :: met) (nxt c at'):=by
 refine ⟨List.nodup_cons.2 ⟨hm,v.nd⟩,?_,nxt_in s v.at_ hj,?_,?_,?_,?_⟩
 ·intro i hi
  rcases List.mem_cons.1 hi with rfl | hi
  ·exact v.at_
  ·exact v.all i hi
 ·have:=v.sum; simp at this ⊢; omega
 ·obtain ⟨m,hmw⟩:=v.way
  exact ⟨m + 1,hmw.snoc hj⟩
 ·intro i hi
  rcases List.mem_cons.1 hi with rfl | hi
  ·exact ⟨1,by omega,rfl,fun j hj2=>by
    obtain rfl:j=0:=by omega
    exact hj⟩
  ·obtain ⟨m,h1,h2⟩:=v.back i hi
   exact ⟨m + 1,by omega,h2.snoc hj⟩
 ·rw [← v.eq]
  show _=if isJ c at'=true∧at' ∉ met then lastF c n (at' :: met) (nxt c at') else at'
  rw [if_pos ⟨hj,hm⟩]
theorem LsInv.stop {c:List Cd} {a at':Int} {n:Nat} {met:List Int} (v:LsInv c a n met at') (h:isJ c at'=false ∨ at' ∈ met):lastS c a=at':=by
 obtain ⟨n,rfl⟩:∃ k,n=k + 1:=⟨n - 1,by have:=v.pos; omega⟩
 rw [← v.eq]
 show (if isJ c at'=true∧at' ∉ met then lastF c n (at' :: met) (nxt c at') else at')=_
 rw [if_neg]
 rintro ⟨h1,h2⟩
 rcases h with h | h
 ·rw [h] at h1; cases h1
 ·exact h2 h
theorem last_spec {c:List Cd} (s:Sane c) {a:Int} (ha:inC c a):(∃ m,Jn c a (lastS c a) m)∧(isJ c (lastS c a)=false ∨ ∃ m,0 < m∧Jn c (lastS c a) (lastS c a) m):=by
 have key:∀ n met at',LsInv c a n met at' → (∃ m,Jn c a (lastS c a) m)∧(isJ c (lastS c a)=false ∨ ∃ m,0 < m∧Jn c (lastS c a) (lastS c a) m):=by
  intro n
  induction n with
  | zero=>intro met at' v; exact absurd v.pos (by omega)
  | succ n ih =>
   intro met at' v
   cases hj:isJ c at'
   ·rw [v.stop (.inl hj)]
    exact ⟨v.way,.inl hj⟩
   ·by_cases hm:at' ∈ met
    ·rw [v.stop (.inr hm)]
     exact ⟨v.way,.inr (v.back _ hm)⟩
    ·exact ih _ _ (v.next s hj hm)
 exact key _ _ _ (LsInv.start ha)
theorem last_in {c:List Cd} (s:Sane c) {a:Int} (ha:inC c a):inC c (lastS c a):=by
 obtain ⟨m,hm⟩:=(last_spec s ha).1
 exact hm.in_ s ha
def thrX (c:List Cd) (x:Cd):Cd:=if leadsS x.op=true then { x with a:=lastS c x.a } else x
def thr (c:List Cd):List Cd:=c.map (thrX c)
theorem thrX_op (c:List Cd) (x:Cd):(thrX c x).op=x.op∧(thrX c x).b=x.b∧(thrX c x).ty=x.ty∧(thrX c x).name=x.name:=by
 unfold thrX
 split <;> exact ⟨rfl,rfl,rfl,rfl⟩
theorem thrX_a {c:List Cd} {x:Cd} (h:leadsS x.op=true):(thrX c x).a=lastS c x.a:=by
 unfold thrX
 rw [if_pos h]
theorem thr_len (c:List Cd):(thr c).length=c.length:=List.length_map _
theorem thr_xI {c:List Cd} {i:Int} (h:inC c i):xI (thr c) i=thrX c (xI c i):=by
 unfold xI thr
 have hi:i.toNat < c.length:=by have:=h.1; have:=h.2; omega
 simp [List.getD,hi]
theorem takes_same {x y:Cd} (h:x.op=y.op) (h2:x.b=y.b):takesS x=takesS y∧putsS x=putsS y∧goesS x=goesS y:=by
 unfold takesS putsS goesS
 rw [h,h2]
 exact ⟨rfl,rfl,rfl⟩
theorem thr_sane {c:List Cd} (s:Sane c):Sane (thr c):=by
 refine ⟨by rw [thr_len]; exact s.pos,by rw [thr_len]; exact s.few,fun x hx=>?_⟩
 obtain ⟨y,hy,rfl⟩:=List.mem_map.1 hx
 obtain ⟨h1,h2,h3,h4⟩:=thrX_op c y
 have h5:=s.each y hy
 have h6:=takes_same h1 h2
 rw [h6.1,h1,thr_len]
 refine ⟨h5.1,h5.2.1,fun hl=>?_⟩
 rw [thrX_a hl]
 exact last_in s (h5.2.2 hl)
theorem thr_reach {c:List Cd} (s:Sane c) (nb:∀ i,¬ BadIn c (Reach c) i) {p:Int × Int} (h:Reach (thr c) p):Reach c p:=by
 have ok:∀ q,Reach c q → okH (xAt c q) q.2=true:=by
  intro q hq
  cases e:okH (xAt c q) q.2
  ·exact absurd (.inl ⟨q,hq,rfl,.inl e⟩) (nb q.1)
  ·rfl
 have walk:∀ m (i e ht:Int),Reach c (i,ht) → Jn c i e m → Reach c (e,ht):=by
  intro m
  induction m with
  | zero=>intro i e ht hr hj; rw [← hj.1]; exact hr
  | succ m ih =>
   intro i e ht hr hj
   have h1:Reach c (it c m i,ht):=ih i _ ht hr ⟨rfl,fun j hj2=>hj.2 j (by omega)⟩
   have h2:=hj.2 m (by omega)
   have h3:(xAt c (it c m i,ht)).op=14:=eq_of_beq h2
   have h4:=h1.lead (ok _ h1) (by rw [h3]; rfl)
   have h5:leadH (xAt c (it c m i,ht)) ht=ht:=by
    unfold leadH behS takesS putsS
    rw [h3]
    show ht - 0 + 0=ht
    omega
   rw [← hj.1]
   simp only [h5] at h4
   exact h4
 induction h with
 | start=>exact .start
 | @lead p _ hok hl ih =>
  have hin:=ih.inb s
  have e:xAt (thr c) p=thrX c (xAt c p):=thr_xI ⟨hin.1,hin.2.1⟩
  obtain ⟨h1,h2,_,_⟩:=thrX_op c (xAt c p)
  have h3:=takes_same h1 h2
  rw [e,h1] at hl
  have h4:=ih.lead (ok _ ih) hl
  have h5:leadH (xAt (thr c) p) p.2=leadH (xAt c p) p.2:=by
   unfold leadH behS
   rw [e,h3.1,h3.2.1,h1]
  rw [h5,e,thrX_a hl]
  have h6:=(s.each _ (xAt_mem hin)).2.2 hl
  obtain ⟨m,hm⟩:=(last_spec s (a:=(xAt c p).a) ⟨h6.1,h6.2⟩).1
  exact walk m _ _ _ h4 hm
 | @next p _ hok hg hne ih =>
  have hin:=ih.inb s
  have e:xAt (thr c) p=thrX c (xAt c p):=thr_xI ⟨hin.1,hin.2.1⟩
  obtain ⟨h1,h2,_,_⟩:=thrX_op c (xAt c p)
  have h3:=takes_same h1 h2
  rw [e,h3.2.2] at hg
  rw [thr_len] at hne
  have h4:=ih.next (ok _ ih) hg hne
  have h5:behS (xAt (thr c) p) p.2=behS (xAt c p) p.2:=by
   unfold behS
   rw [e,h3.1,h3.2.1]
  rw [h5]
  exact h4
theorem thr_sound {c:List Cd} (s:Sane c) (h:unsoundS c < 0):unsoundS (thr c) < 0:=by
 have nb:=uns_none s h
 have hn:∀ i,¬ BadIn (thr c) (Reach (thr c)) i:=by
  intro i hi
  refine nb i ?_
  have b1:∀ p,Reach c p → bad1 (thr c) p → bad1 c p:=by
   intro p hp hb
   have hin:=hp.inb s
   have e:xAt (thr c) p=thrX c (xAt c p):=thr_xI ⟨hin.1,hin.2.1⟩
   obtain ⟨h1,h2,_,_⟩:=thrX_op c (xAt c p)
   have h3:=takes_same h1 h2
   unfold bad1 okH at *
   rw [e,h3.1,h3.2.2,thr_len] at hb
   exact hb
  rcases hi with ⟨p,hp,rfl,hb⟩ | ⟨p,q,hp,hq,h1,h2,hne⟩
  ·exact .inl ⟨p,thr_reach s nb hp,rfl,b1 p (thr_reach s nb hp) hb⟩
  ·exact .inr ⟨p,q,thr_reach s nb hp,thr_reach s nb hq,h1,h2,hne⟩
 have h1:=uns_spec (thr_sane s)
 rcases (by omega:unsoundS (thr c) < 0 ∨ 0 ≤ unsoundS (thr c)) with h2 | h2
 ·exact h2
 ·exact absurd (h1.2 h2).1 (hn _)

structure Like (f g:Fc):Prop where
 name:g.name=f.name
 params:g.params=f.params
 places:g.places=f.places
 ty:g.ty=f.ty
 code:g.code=f.code
structure Thrd (f g:Fc):Prop where
 name:g.name=f.name
 params:g.params=f.params
 places:g.places=f.places
 ty:g.ty=f.ty
 code:g.code=thr f.code
def ThrL (l m:List Fc):Prop:=m.length=l.length∧∀ k,k < l.length → Thrd (l.getD k default) (m.getD k default)
theorem getD_out {l:List Fc} {k:Nat} (h:l.length ≤ k):l.getD k default=default:=by
 rw [List.getD,List.getElem?_eq_none h]; rfl
theorem ThrL.names {l m:List Fc} (h:ThrL l m) (k:Nat):(m.getD k default).name=(l.getD k default).name∧(m.getD k default).params=(l.getD k default).params:=by
 rcases Nat.lt_or_ge k l.length with hk | hk
 ·exact ⟨(h.2 k hk).name,(h.2 k hk).params⟩
 ·rw [getD_out hk,getD_out (by rw [h.1]; exact hk)]
  exact ⟨rfl,rfl⟩
theorem index_same {l m:List Fc} (hl:m.length=l.length) (h:∀ k,(m.getD k default).name=(l.getD k default).name) (n:ByteArray):indexS m n=indexS l n:=by
 unfold indexS
 rw [hl]
 congr 1
 funext k
 rw [h k]
theorem shape_same {l m:List Fc} {f g:Fc} {x:Cd} (hl:m.length=l.length) (h:∀ k,(m.getD k default).name=(l.getD k default).name∧(m.getD k default).params=(l.getD k default).params) (hp:g.places=f.places) (hc:g.code.length=f.code.length) :
  shapeS m g x=shapeS l f x:=by
 unfold shapeS
 rw [index_same hl (fun k=>(h k).1),hp,hc,(h _).2]
theorem inst_thr {l:List Fc} {f:Fc} {x:Cd} (s:Sane f.code) (hx:x ∈ f.code) (h:instS l f x=true):instS l f (thrX f.code x)=true:=by
 cases hl:leadsS x.op
 ·have e:thrX f.code x=x:=by unfold thrX; rw [hl]; rfl
  rw [e]; exact h
 ·have e:thrX f.code x={ x with a:=lastS f.code x.a }:=by unfold thrX; rw [if_pos hl]
  have hin:=last_in s ((s.each x hx).2.2 hl)
  rw [e]
  have h4:x.op=12 ∨ x.op=13 ∨ x.op=14 ∨ x.op=15:=by
   unfold leadsS at hl
   simpa using hl
  obtain ⟨op,a,b,ty,nm⟩:=x
  simp only [] at h4 hin hl h ⊢
  generalize lastS f.code a=a2 at *
  unfold instS shapeS inB at *
  have hin':0 ≤ a2∧a2 < f.code.length:=hin
  rcases h4 with rfl | rfl | rfl | rfl <;>
  ·simp at h ⊢
   exact ⟨⟨hin'.1,by omega⟩,h.2⟩
theorem fc_thr {l m:List Fc} (h:ThrL l m) (hv:validS l=0) {k:Nat} (hk:k < l.length) (hf:fcS l (l.getD k default)=true):fcS m (m.getD k default)=true:=by
 have s:Sane (l.getD k default).code:=sane_of hv (getD_mem hk)
 obtain ⟨h1,h2,h3,h4,h5⟩:=h.2 k hk
 have hp:=fcS_parts hf
 unfold fcS at hf ⊢
 simp only [Bool.and_eq_true] at hf ⊢
 rw [h1,h2,h3,h4,h5,thr_len]
 refine ⟨hf.1,hf.2.1,hf.2.2.1,hf.2.2.2.1,?_⟩
 rw [List.all_eq_true]
 intro x hx
 obtain ⟨y,hy,rfl⟩:=List.mem_map.1 hx
 unfold instS
 rw [shape_same (f:=l.getD k default) h.1 h.names h3 (by rw [h5,thr_len])]
 exact inst_thr s hy (hp.2.2.2 y hy)
theorem count_same {l m:List Fc} (hl:m.length=l.length) (h:∀ k,k < l.length → (m.getD k default).code.length=(l.getD k default).code.length):countS m=countS l:=by
 unfold countS
 rw [Go.Deep.map_by_index m default,Go.Deep.map_by_index l default,hl]
 congr 1
 exact List.map_congr_left fun k hk=>h k (List.mem_range.1 hk)
theorem thr_valid {l m:List Fc} (h:ThrL l m) (hv:validS l=0):validS m=0:=by
 obtain ⟨h1,h2,h3,h4⟩:=valid_parts hv
 refine validS_good ?_ ?_
 ·rintro (e | e | ⟨f,hf,e⟩)
  ·rw [h.1] at e; omega
  ·rw [count_same h.1 (fun k hk=>by rw [(h.2 k hk).code,thr_len])] at e; omega
  ·obtain ⟨k,hk,rfl⟩:=List.getElem_of_mem hf
   have hk2:k < l.length:=by rw [← h.1]; exact hk
   have:=(h.2 k hk2).places
   rw [List.getD,List.getElem?_eq_getElem hk,Option.getD_some] at this
   rw [this] at e
   have:=h3 _ (getD_mem hk2)
   omega
 ·intro k hk
  have hk2:k < l.length:=by rw [← h.1]; exact hk
  obtain ⟨h5,h6⟩:=h4 k hk2
  refine ⟨fc_thr h hv hk2 h5,?_⟩
  rw [(h.2 k hk2).name,index_same h.1 (fun k=>(h.names k).1)]
  exact h6
theorem check_zero {l:List Fc} (h:(checkE l).2.2=0):checkE l=(0,0,0):=by
 obtain ⟨h1,h2⟩:=check_ok h
 exact check_good h1 h2
theorem thr_check {l m:List Fc} (h:ThrL l m) (hc:(checkE l).2.2=0):checkE m=(0,0,0):=by
 obtain ⟨h1,h2⟩:=check_ok hc
 refine check_good (thr_valid h h1) fun k hk=>?_
 have hk2:k < l.length:=by rw [← h.1]; exact hk
 rw [(h.2 k hk2).code]
 exact thr_sound (sane_of h1 (getD_mem hk2)) (h2 k hk2)
end Go.Proofs.YtcoookehfhhhdaaGreatDoor.c
