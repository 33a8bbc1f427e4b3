/- Stack code whose jumps are threaded, and what of it functions need, do what it does. No condition. Stack code that is sound: each step comes to a point that is reached. No condition. Contracts of the stack machine's Named, Small, ItemOf, ValueOf. Lengths are bounded. What calls of stack code come to, where the code is threaded or cut: the same. No condition. What right stack code asks of each operation, and what each operation does, told plainly. No condition. -/
import Derived.Test.YtcoookehfhhhdaaGreatDoorUns
import Derived.Test.YtcoookehfhhhdaaGreatDoorThr
import Derived.Test.YtcoookehfhhhdaaGreatDoorCut
import Derived.Test.YtcoookehfhhhdaaGreatDoorEqb
import Derived.Test.YtcoookehfhhhdaaGreatDoorRinst
namespace Go.Proofs.YtcoookehfhhhdaaGreatDoor.c
open Go.RowKit
set_option linter.unusedVariables false
set_option maxRecDepth 100000
set_option maxHeartbeats 1600000
set_option linter.unusedSimpArgs false
inductive Jmp (c:List Cd):Nat → Nat → Nat → Prop where
 | nil {p:Nat}:Jmp c 0 p p
 | cons {n p q:Nat}:(c.getD p default).op=14 → Jmp c n (c.getD p default).a.toNat q → Jmp c (n + 1) p q
theorem jmp_of {c:List Cd}:∀ (m:Nat) (i e:Int),Jn c i e m → Jmp c m i.toNat e.toNat
 | 0,i,e,h=>by rw [← h.1]; exact .nil
 | m + 1,i,e,h=>by
  have h0:isJ c i=true:=h.2 0 (by omega)
  refine .cons (by unfold isJ xI at h0; simpa using h0) ?_
  refine jmp_of m (nxt c i) e ⟨?_,fun j hj=>?_⟩
  ·rw [← h.1,it_add c m 1 i]; rfl
  ·have:=h.2 (j + 1) (by omega)
   rwa [it_add c j 1 i] at this
theorem thr_get (c:List Cd) (p:Nat):(thr c).getD p default=thrX c (c.getD p default):=by
 unfold thr
 rcases Nat.lt_or_ge p c.length with h | h
 ·rw [List.getD,List.getElem?_map,List.getElem?_eq_getElem h,List.getD,List.getElem?_eq_getElem h]; rfl
 ·rw [List.getD,List.getD,List.getElem?_eq_none (by simpa using h),List.getElem?_eq_none h]; rfl
theorem thr_code {l m:List Fc} (h:ThrL l m) (k:Nat):(m.getD k default).code=thr (l.getD k default).code:=by
 rcases Nat.lt_or_ge k l.length with hk | hk
 ·exact (h.2 k hk).code
 ·rw [getD_out hk,getD_out (by rw [h.1]; exact hk)]; rfl
theorem thrX_no {c:List Cd} {x:Cd} (h:leadsS x.op=false):thrX c x=x:=by unfold thrX; rw [if_neg (by rw [h]; decide)]
theorem leads_cases {op:Int} (h:leadsS op=true):op=12 ∨ op=13 ∨ op=14 ∨ op=15:=by
 unfold leadsS at h
 simpa using h
section
variable {ck:Bool} {p:Nat} {P:Nat → Val} {K:List Val}
theorem step_12 {y:Cd} (h:y.op=12):stepK ck y p P K=(bif (topK K).null then .go y.a.toNat P (K.take (K.length - 1)) else .go (p + 1) P K):=by simp [stepK,h]
theorem step_13 {y:Cd} (h:y.op=13):stepK ck y p P K=.go (bif !emp (topK K).err then y.a.toNat else p + 1) P K:=by simp [stepK,h]
theorem step_14 {y:Cd} (h:y.op=14):stepK ck y p P K=.go y.a.toNat P K:=by simp [stepK,h]
theorem step_15 {y:Cd} (h:y.op=15):stepK ck y p P K=.go (bif (topK K).n == 0 then y.a.toNat else p + 1) P (K.take (K.length - 1)):=by simp [stepK,h]
theorem step_lead {c:List Cd} {x:Cd} (hx:leadsS x.op=true):∃ p1 P1 K1,stepK ck x p P K=.go p1 P1 K1∧((p1=p + 1∧stepK ck (thrX c x) p P K=.go (p + 1) P1 K1) ∨ (p1=x.a.toNat∧stepK ck (thrX c x) p P K=.go (lastS c x.a).toNat P1 K1)):=by
 have ho:=(thrX_op c x).1
 have ha:=thrX_a (c:=c) hx
 rcases leads_cases hx with h | h | h | h
 ·rw [step_12 h,step_12 (ho.trans h),ha]
  cases (topK K).null
  ·exact ⟨_,_,_,rfl,.inl ⟨rfl,rfl⟩⟩
  ·exact ⟨_,_,_,rfl,.inr ⟨rfl,rfl⟩⟩
 ·rw [step_13 h,step_13 (ho.trans h),ha]
  cases !emp (topK K).err
  ·exact ⟨_,_,_,rfl,.inl ⟨rfl,rfl⟩⟩
  ·exact ⟨_,_,_,rfl,.inr ⟨rfl,rfl⟩⟩
 ·rw [step_14 h,step_14 (ho.trans h),ha]
  exact ⟨_,_,_,rfl,.inr ⟨rfl,rfl⟩⟩
 ·rw [step_15 h,step_15 (ho.trans h),ha]
  cases (topK K).n == 0
  ·exact ⟨_,_,_,rfl,.inl ⟨rfl,rfl⟩⟩
  ·exact ⟨_,_,_,rfl,.inr ⟨rfl,rfl⟩⟩
end
inductive SimT (l:List Fc):CfK → CfK → Prop where
 | call {d k:Nat} {av:List Val}:SimT l (.call d k av) (.call d k av)
 | at_ {d k p q n:Nat} {P:Nat → Val} {K:List Val}:Jmp (l.getD k default).code n p q → SimT l (.at_ d k p P K) (.at_ d k q P K)
theorem code_in {l:List Fc} {k p:Nat} (h:((l.getD k default).code.getD p default).op ≠ 0):k < l.length∧p < (l.getD k default).code.length:=by
 have hp:p < (l.getD k default).code.length:=by
  rcases Nat.lt_or_ge p (l.getD k default).code.length with h1 | h1
  ·exact h1
  ·rw [List.getD,List.getElem?_eq_none h1] at h
   exact absurd rfl h
 refine ⟨?_,hp⟩
 rcases Nat.lt_or_ge k l.length with h1 | h1
 ·exact h1
 ·rw [getD_out h1] at hp
  exact absurd hp (by simp [show (default:Fc).code=[] from rfl])
theorem lead_in_code {l:List Fc} (hv:validS l=0) {k p:Nat} (h:leadsS ((l.getD k default).code.getD p default).op=true):Sane (l.getD k default).code∧inC (l.getD k default).code ((l.getD k default).code.getD p default).a:=by
 obtain ⟨hk,hp⟩:=code_in (l:=l) (k:=k) (p:=p) (fun e=>by rw [e] at h; cases h)
 have s:=sane_of hv (getD_mem hk)
 exact ⟨s,(s.each _ (getD_mem hp)).2.2 h⟩
theorem thr_run {l m:List Fc} (hv:validS l=0) (ht:ThrL l m) {ck:Bool} {c:CfK} {s:Nat} {e:En} {t:Nat} (h:RunK l ck c s e t):e ≠ .long → ∀ {c2:CfK} {s2:Nat},SimT l c c2 → s2 ≤ s → ∃ t2,t2 ≤ t∧RunK m ck c2 s2 e t2:=by
 have hix:∀ nm,indexS m nm=indexS l nm:=fun nm=>index_same ht.1 (fun k=>(ht.names k).1) nm
 induction h with
 | deep _=>intro he; exact absurd rfl he
 | full _=>intro he; exact absurd rfl he
 | enter h1 _ ih =>
  intro he c2 s2 hs hle
  cases hs with
  | call =>
   obtain ⟨t2,h2,h3⟩:=ih he (.at_ .nil) hle
   exact ⟨t2,h2,.enter h1 h3⟩
 | @done d k p P K s e h1 h2 =>
  intro he c2 s2 hs hle
  cases hs with
  | at_ hj =>
   have hn:leadsS ((l.getD k default).code.getD p default).op=false:=by
    cases hq:leadsS ((l.getD k default).code.getD p default).op
    ·rfl
    ·obtain ⟨p1,P1,K1,e1,_⟩:=step_lead (ck:=ck) (p:=p) (P:=P) (K:=K) (c:=[]) hq
     rw [h2] at e1
     cases e1
   cases hj with
   | cons h14 _=>rw [h14] at hn; cases hn
   | nil =>
    refine ⟨s2 + 1,by omega,.done (by omega) ?_⟩
    rw [thr_code ht,thr_get,thrX_no hn]
    exact h2
 | @go d k p P K s e t p1 P1 K1 h1 h2 _ ih =>
  intro he c2 s2 hs hle
  cases hs with
  | at_ hj =>
   cases hj with
   | cons h14 hj2 =>
    rw [step_14 h14] at h2
    cases h2
    exact ih he (.at_ hj2) (by omega)
   | nil =>
    cases hq:leadsS ((l.getD k default).code.getD p default).op
    ·obtain ⟨t2,h3,h4⟩:=ih he (.at_ .nil) (show s2 + 1 ≤ s + 1 by omega)
     refine ⟨t2,h3,.go (by omega) ?_ h4⟩
     rw [thr_code ht,thr_get,thrX_no hq]
     exact h2
    ·obtain ⟨q1,Q1,L1,e1,e2⟩:=step_lead (ck:=ck) (p:=p) (P:=P) (K:=K) (c:=(l.getD k default).code) hq
     rw [h2] at e1
     cases e1
     rcases e2 with ⟨rfl,e2⟩ | ⟨rfl,e2⟩
     ·obtain ⟨t2,h3,h4⟩:=ih he (.at_ .nil) (show s2 + 1 ≤ s + 1 by omega)
      exact ⟨t2,h3,.go (by omega) (by rw [thr_code ht,thr_get]; exact e2) h4⟩
     ·obtain ⟨sn,hin⟩:=lead_in_code hv hq
      obtain ⟨n,hn⟩:=(last_spec sn hin).1
      obtain ⟨t2,h3,h4⟩:=ih he (.at_ (jmp_of n _ _ hn)) (show s2 + 1 ≤ s + 1 by omega)
      exact ⟨t2,h3,.go (by omega) (by rw [thr_code ht,thr_get]; exact e2) h4⟩
 | @callX d k p P K s e t nm av r h1 h2 _ h4 ih =>
  intro he c2 s2 hs hle
  cases hs with
  | at_ hj =>
   have hn:leadsS ((l.getD k default).code.getD p default).op=false:=by
    cases hq:leadsS ((l.getD k default).code.getD p default).op
    ·rfl
    ·obtain ⟨p1,P1,K1,e1,_⟩:=step_lead (ck:=ck) (p:=p) (P:=P) (K:=K) (c:=[]) hq
     rw [h2] at e1
     cases e1
   cases hj with
   | cons h14 _=>rw [h14] at hn; cases hn
   | nil =>
    obtain ⟨t2,h5,h6⟩:=ih he .call (show s2 + 1 ≤ s + 1 by omega)
    refine ⟨t2,h5,.callX (r:=r) (by omega) ?_ (by rw [hix]; exact h6) h4⟩
    rw [thr_code ht,thr_get,thrX_no hn]
    exact h2
 | @callR d k p P K s v t e u nm av r h1 h2 _ _ ih1 ih2 =>
  intro he c2 s2 hs hle
  cases hs with
  | at_ hj =>
   have hn:leadsS ((l.getD k default).code.getD p default).op=false:=by
    cases hq:leadsS ((l.getD k default).code.getD p default).op
    ·rfl
    ·obtain ⟨p1,P1,K1,e1,_⟩:=step_lead (ck:=ck) (p:=p) (P:=P) (K:=K) (c:=[]) hq
     rw [h2] at e1
     cases e1
   cases hj with
   | cons h14 _=>rw [h14] at hn; cases hn
   | nil =>
    obtain ⟨t2,h5,h6⟩:=ih1 (fun e=>by cases e) .call (show s2 + 1 ≤ s + 1 by omega)
    obtain ⟨u2,h7,h8⟩:=ih2 he (.at_ .nil) h5
    refine ⟨u2,h7,.callR (by omega) ?_ (by rw [hix]; exact h6) h8⟩
    rw [thr_code ht,thr_get,thrX_no hn]
    exact h2
inductive SimC (P:List Nat):CfK → CfK → Prop where
 | call {d k q:Nat} {av:List Val}:q < P.length → P.getD q 0=k → SimC P (.call d k av) (.call d q av)
 | at_ {d k q p:Nat} {V:Nat → Val} {K:List Val}:q < P.length → P.getD q 0=k → SimC P (.at_ d k p V K) (.at_ d q p V K)
def callN:Nk → Bool
 | .call _ _ _=>true
 | _=>false
theorem callN_put {q:Int × Int} {p:Nat} {P:Nat → Val} {K:List Val}:callN (putK q p P K)=false:=by unfold putK; cases q.2 != 0 <;> rfl
theorem callN_if {c:Prop} [Decidable c] {a b:Nk} (ha:callN a=false) (hb:callN b=false):callN (if c then a else b)=false:=by split <;> assumption
theorem step_ne {ck:Bool} {x:Cd} {p:Nat} {P:Nat → Val} {K:List Val} (h16:¬ x.op=16):callN (stepK ck x p P K)=false:=by
 unfold stepK
 rw [if_neg h16]
 repeat' (first | refine callN_if ?_ ?_ | exact callN_put | rfl | (cases (topK K).null <;> rfl))
theorem step_call {ck:Bool} {x:Cd} {p:Nat} {P:Nat → Val} {K r:List Val} {nm:ByteArray} {av:List Val} (h:stepK ck x p P K=.call nm av r):x.op=16∧nm=x.name:=by
 by_cases h16:x.op=16
 ·refine ⟨h16,?_⟩
  simp [stepK,h16] at h
  exact h.1.symm
 ·have:=step_ne (ck:=ck) (p:=p) (P:=P) (K:=K) h16
  rw [h] at this
  cases this
theorem inst_callee {l:List Fc} {f:Fc} {x:Cd} (h:instS l f x=true) (h16:x.op=16):0 ≤ indexS l x.name:=by
 unfold instS shapeS at h
 simp [h16] at h
 exact h.2.2.2
theorem cut_run {l m:List Fc} {N:Nat → Prop} {Q:List Nat} (hv:validS l=0) (ct:CutOf l N m Q) (cl:∀ i j,i < l.length → N i → CallsTo l i j → N j) {ck:Bool} {c:CfK} {s:Nat} {e:En} {t:Nat} (h:RunK l ck c s e t):∀ {c2:CfK},SimC Q c c2 → RunK m ck c2 s e t:=by
 have hcode:∀ {q:Nat},q < Q.length → (m.getD q default).code=(l.getD (Q.getD q 0) default).code:=fun hq=>(ct.like _ hq).code
 have hcall:∀ {q p:Nat} {P:Nat → Val} {K r:List Val} {nm:ByteArray} {av:List Val},q < Q.length → stepK ck ((l.getD (Q.getD q 0) default).code.getD p default) p P K=.call nm av r → ∃ q2,q2 < Q.length∧Q.getD q2 0=(indexS l nm).toNat∧indexS m nm=(q2:Int):=by
  intro q p P K r nm av hq hs
  obtain ⟨h16,rfl⟩:=step_call hs
  obtain ⟨hk,hp⟩:=code_in (l:=l) (k:=Q.getD q 0) (p:=p) (by rw [h16]; decide)
  have hx:=getD_mem hp
  have hi:=(fcS_parts (valid_fc hv (getD_mem hk))).2.2.2 _ hx
  have h0:=inst_callee hi h16
  have hc:CallsTo l (Q.getD q 0) (indexS l ((l.getD (Q.getD q 0) default).code.getD p default).name).toNat:=⟨_,hx,h16,by omega⟩
  have hN:=cl _ _ hk (ct.at_ hq).2 hc
  obtain ⟨q2,hq2,e2⟩:=ct.pos (call_in hc) hN
  exact ⟨q2,hq2,e2,ct.index hv (by omega) hq2 e2⟩
 induction h with
 | deep h1=>intro c2 hs; cases hs with
  | call hq e1=>exact .deep h1
 | full h1=>intro c2 hs; cases hs with
  | at_ hq e1=>exact .full h1
 | enter h1 _ ih=>intro c2 hs; cases hs with
  | call hq e1=>exact .enter h1 (ih (.at_ hq e1))
 | done h1 h2=>intro c2 hs; cases hs with
  | at_ hq e1=>subst e1; exact .done h1 (by rw [hcode hq]; exact h2)
 | go h1 h2 _ ih=>intro c2 hs; cases hs with
  | at_ hq e1=>subst e1; exact .go h1 (by rw [hcode hq]; exact h2) (ih (.at_ hq rfl))
 | callX h1 h2 _ h4 ih=>intro c2 hs; cases hs with
  | at_ hq e1 =>
   subst e1
   obtain ⟨q2,hq2,e2,e3⟩:=hcall hq h2
   exact .callX h1 (by rw [hcode hq]; exact h2) (by rw [e3,Int.toNat_natCast]; exact ih (.call hq2 e2)) h4
 | callR h1 h2 _ _ ih1 ih2=>intro c2 hs; cases hs with
  | at_ hq e1 =>
   subst e1
   obtain ⟨q2,hq2,e2,e3⟩:=hcall hq h2
   exact .callR h1 (by rw [hcode hq]; exact h2) (by rw [e3,Int.toNat_natCast]; exact ih1 (.call hq2 e2)) (ih2 (.at_ hq rfl))
variable {c:List Cd} {p:Nat} {K:List Val} {x:Cd}
theorem reach_ok (s:Sane c) (hun:unsoundS c < 0) (hr:Reach c ((p:Int),(K.length:Int))) (hx:x=c.getD p default):okH x K.length=true∧(goesS x=true → (p:Int) + 1 ≠ c.length):=by
 have hb:=uns_none s hun p
 have hx2:xAt c ((p:Int),(K.length:Int))=x:=by rw [hx]; rfl
 constructor
 ·cases h:okH x K.length
  ·exact absurd (.inl ⟨_,hr,rfl,.inl (by rw [hx2]; exact h)⟩) hb
  ·rfl
 ·intro h h2
  exact absurd (.inl ⟨_,hr,rfl,.inr ⟨by rw [hx2]; exact h,h2⟩⟩) hb
theorem reach_next (s:Sane c) (hun:unsoundS c < 0) (hr:Reach c ((p:Int),(K.length:Int))) (hx:x=c.getD p default) (hg:goesS x=true) {n:Nat} (hn:(n:Int)=behS x K.length):p + 1 < c.length∧Reach c (((p + 1:Nat):Int),(n:Int)):=by
 obtain ⟨h1,h2⟩:=reach_ok s hun hr hx
 have hx2:xAt c ((p:Int),(K.length:Int))=x:=by rw [hx]; rfl
 have h3:=h2 hg
 have hi:=hr.inb s
 have h4:=Reach.next hr (by rw [hx2]; exact h1) (by rw [hx2]; exact hg) h3
 rw [hx2,← hn] at h4
 refine ⟨?_,by rw [Int.natCast_add]; exact h4⟩
 have:=hi.2.1
 simp only at this
 omega
theorem reach_lead (s:Sane c) (hun:unsoundS c < 0) (hr:Reach c ((p:Int),(K.length:Int))) (hx:x=c.getD p default) (hg:leadsS x.op=true) {n:Nat} (hn:(n:Int)=leadH x K.length):x.a.toNat < c.length∧Reach c ((x.a.toNat:Int),(n:Int)):=by
 obtain ⟨h1,h2⟩:=reach_ok s hun hr hx
 have hx2:xAt c ((p:Int),(K.length:Int))=x:=by rw [hx]; rfl
 have h4:=Reach.lead hr (by rw [hx2]; exact h1) (by rw [hx2]; exact hg)
 rw [hx2,← hn] at h4
 have hi:=h4.inb s
 have i1:=hi.1
 have i2:=hi.2.1
 simp only at i1 i2
 rw [show ((x.a.toNat:Nat):Int)=x.a by omega]
 exact ⟨by omega,h4⟩
theorem takes_ok (s:Sane c) (hun:unsoundS c < 0) (hr:Reach c ((p:Int),(K.length:Int))) (hx:x=c.getD p default):takesS x ≤ K.length∧K.length ≤ 64:=by
 have h:=okH_le (reach_ok s hun hr hx).1
 omega
theorem reach_go (s:Sane c) (hun:unsoundS c < 0) (hr:Reach c ((p:Int),(K.length:Int))) (hx:x=c.getD p default) {ck:Bool} {P P':Nat → Val} {p':Nat} {K':List Val} (hst:stepK ck x p P K=.go p' P' K'):p' < c.length∧Reach c ((p':Int),(K'.length:Int)):=by
 have ht:=takes_ok s hun hr hx
 have nx:=fun hg=>reach_next s hun hr hx hg (n:=K'.length)
 have ld:=fun hg=>reach_lead s hun hr hx hg (n:=K'.length)
 unfold behS at nx
 unfold leadH behS at ld
 by_cases h0:x.op=0
 ·simp [stepK,takesS,putsS,goesS,h0] at hst ht nx
  obtain ⟨rfl,_,rfl⟩:=hst
  exact nx (by simp)
 by_cases h1:x.op=1
 ·simp [stepK,takesS,putsS,goesS,h1] at hst ht nx
  obtain ⟨rfl,_,rfl⟩:=hst
  exact nx (by simp)
 by_cases h2:x.op=2
 ·simp [stepK,takesS,putsS,goesS,h2] at hst ht nx
  obtain ⟨rfl,_,rfl⟩:=hst
  exact nx (by simp)
 by_cases h18:x.op=18
 ·simp [stepK,takesS,putsS,goesS,h18] at hst ht nx
  obtain ⟨rfl,_,rfl⟩:=hst
  exact nx (by simp)
 by_cases h3:x.op=3
 ·simp [stepK,takesS,putsS,goesS,h3] at hst ht nx
  obtain ⟨rfl,_,rfl⟩:=hst
  exact nx (by simp; omega)
 by_cases h4:x.op=4
 ·simp [stepK,takesS,putsS,goesS,h4] at hst ht nx
  obtain ⟨rfl,_,rfl⟩:=hst
  exact nx (by simp; omega)
 by_cases h56:x.op=5 ∨ x.op=6
 ·have e:takesS x=2∧putsS x=1∧goesS x=true:=by rcases h56 with h | h <;> simp [takesS,putsS,goesS,h]
  rw [e.1] at ht
  rw [e.1,e.2.1] at nx
  simp only [stepK,if_neg h0,if_neg h1,if_neg h2,if_neg h3,if_neg h4,if_pos h56,putK] at hst
  cases hb:(twoK ck x (K.getD (K.length - 2) default) (topK K)).2 != 0
  ·rw [hb] at hst
   simp at hst
   obtain ⟨rfl,_,rfl⟩:=hst
   exact nx e.2.2 (by simp; omega)
  ·rw [hb] at hst
   cases hst
 by_cases h12:x.op=12
 ·have e:takesS x=1∧putsS x=1∧goesS x=true∧(x.op == 12)=true:=by simp [takesS,putsS,goesS,h12]
  have ld2:=ld (by rw [h12]; rfl)
  rw [e.1] at ht
  rw [e.1,e.2.1] at nx
  rw [e.2.2.2,e.1,e.2.1,cond_true] at ld2
  simp [stepK,h12] at hst
  cases hb:(topK K).null
  ·rw [hb] at hst
   simp at hst
   obtain ⟨rfl,_,rfl⟩:=hst
   exact nx e.2.2.1 (by omega)
  ·rw [hb] at hst
   simp at hst
   obtain ⟨rfl,_,rfl⟩:=hst
   exact ld2 (by simp; omega)
 by_cases h13:x.op=13
 ·have e:takesS x=1∧putsS x=1∧goesS x=true∧(x.op == 12)=false:=by simp [takesS,putsS,goesS,h13]
  have ld2:=ld (by rw [h13]; rfl)
  rw [e.1] at ht
  rw [e.1,e.2.1] at nx
  rw [e.2.2.2,e.1,e.2.1,cond_false] at ld2
  simp [stepK,h13] at hst
  cases hb:emp (topK K).err
  ·rw [hb] at hst
   simp at hst
   obtain ⟨rfl,_,rfl⟩:=hst
   exact ld2 (by omega)
  ·rw [hb] at hst
   simp at hst
   obtain ⟨rfl,_,rfl⟩:=hst
   exact nx e.2.2.1 (by omega)
 by_cases h14:x.op=14
 ·have e:takesS x=0∧putsS x=0∧(x.op == 12)=false:=by simp [takesS,putsS,h14]
  have ld2:=ld (by rw [h14]; rfl)
  rw [e.2.2,e.1,e.2.1,cond_false] at ld2
  simp [stepK,h14] at hst
  obtain ⟨rfl,_,rfl⟩:=hst
  exact ld2 (by simp)
 by_cases h15:x.op=15
 ·have e:takesS x=1∧putsS x=0∧goesS x=true∧(x.op == 12)=false:=by simp [takesS,putsS,goesS,h15]
  have ld2:=ld (by rw [h15]; rfl)
  rw [e.1] at ht
  rw [e.1,e.2.1] at nx
  rw [e.2.2.2,e.1,e.2.1,cond_false] at ld2
  simp [stepK,h15] at hst
  cases hb:((topK K).n == 0)
  ·simp [hb] at hst
   obtain ⟨rfl,_,rfl⟩:=hst
   exact nx e.2.2.1 (by simp; omega)
  ·simp [hb] at hst
   obtain ⟨rfl,_,rfl⟩:=hst
   exact ld2 (by simp; omega)
 by_cases h16:x.op=16
 ·simp [stepK,h16] at hst
 by_cases h17:x.op=17
 ·simp [stepK,h17] at hst
 by_cases h19:x.op=19
 ·simp [stepK,h19] at hst
 have e:takesS x=1∧putsS x=1∧goesS x=true:=by
  rw [not_or] at h56
  have b0:(x.op == 0)=false:=by simpa using h0
  have b1:(x.op == 1)=false:=by simpa using h1
  have b2:(x.op == 2)=false:=by simpa using h2
  have b3:(x.op == 3)=false:=by simpa using h3
  have b4:(x.op == 4)=false:=by simpa using h4
  have b5:(x.op == 5)=false:=by simpa using h56.1
  have b6:(x.op == 6)=false:=by simpa using h56.2
  have b14:(x.op == 14)=false:=by simpa using h14
  have b15:(x.op == 15)=false:=by simpa using h15
  have b16:(x.op == 16)=false:=by simpa using h16
  have b17:(x.op == 17)=false:=by simpa using h17
  have b18:(x.op == 18)=false:=by simpa using h18
  have b19:(x.op == 19)=false:=by simpa using h19
  simp [takesS,putsS,goesS,b0,b1,b2,b3,b4,b5,b6,b14,b15,b16,b17,b18,b19]
 rw [e.1] at ht
 rw [e.1,e.2.1] at nx
 simp only [stepK,if_neg h0,if_neg h1,if_neg h2,if_neg h3,if_neg h4,if_neg h56,if_neg h12,if_neg h13,if_neg h14,if_neg h15,if_neg h16,if_neg h17,if_neg h18,if_neg h19,putK] at hst
 cases hb:(oneK ck x (topK K)).2 != 0
 ·rw [hb] at hst
  simp at hst
  obtain ⟨rfl,_,rfl⟩:=hst
  exact nx e.2.2 (by simp; omega)
 ·rw [hb] at hst
  cases hst
theorem reach_call (s:Sane c) (hun:unsoundS c < 0) (hr:Reach c ((p:Int),(K.length:Int))) (hx:x=c.getD p default) (h16:x.op=16) (hb:0 ≤ x.b) (v:Val):x.b.toNat ≤ K.length∧p + 1 < c.length∧Reach c (((p + 1:Nat):Int),((K.take (K.length - x.b.toNat) ++ [v]).length:Int)):=by
 have ht:=takes_ok s hun hr hx
 have nx:=reach_next s hun hr hx (n:=(K.take (K.length - x.b.toNat) ++ [v]).length)
 unfold behS at nx
 simp [takesS,putsS,goesS,h16] at ht nx
 exact ⟨by omega,by simpa using nx (by omega)⟩
theorem knamed_any (A:Option Addr) (cap:Nat) (l:List Fc) {len:Nat} (n:ByteArray) (w:World) (hlen:len=l.length) (hA:FcAt w A l) (hl:len ≤ 9223372036854775806) :
  Calls Tryz.prog 71 #[.slice A len cap,.string n] w fun e w'=>e=.returned (.int .i64 (indexS l n))∧w=w':=by
 have HLn:=Lib.hid hlen
 clear hlen
 have HA:=Lib.hid hA
 clear hA
 go_enter Tryz.func71,Tryz.ntmps71
 go_wp2
 go_loop [5] (fun i=>∃ k:Nat,k ≤ len∧i=.int .i64 k∧∀ j,j < k → ((l.getD j default).name.toList == n.toList)=false) (fun i=>len - (intOf i).toNat)
 case atStart=>exact ⟨0,Nat.zero_le _,rfl,by omega⟩
 case round =>
  obtain ⟨k,hk,rfl,hnone⟩:=hrel
  have HN:=Lib.hid hnone; clear hnone
  by_cases hlt:k < len
  ·obtain ⟨f,hf⟩:∃ f,f=l.getD k default:=⟨_,rfl⟩
   obtain ⟨b,off,rfl,hb,c0,_⟩:=HA.out.at_ (k:=k) (by rw [← HLn.out]; exact hlt) hf
   have HF:=Lib.hid hf
   clear hf
   go_wp2_with fail
   case roundEnd =>
    have h9:(f.name.toList == n.toList)=false:=by assumption
    refine ⟨⟨k + 1,by omega,by go_num,fun j hj=>?_⟩,by simp [intOf]; omega⟩
    rcases Nat.lt_or_ge j k with h | h
    ·exact HN.out j h
    ·obtain rfl:j=k:=by omega
     rw [← HF.out]; exact h9
   all_goals
    have h9:(f.name.toList == n.toList)=true:=by assumption
    go_ret
    exact ⟨ret_int (by unfold indexS; rw [← HLn.out]; exact (findI_hit hlt (by rw [← HF.out]; exact h9) HN.out).symm),rfl⟩
  ·go_wp2_with fail
   go_ret
   exact ⟨ret_int (by unfold indexS; rw [← HLn.out]; exact (findI_none (fun j hj=>HN.out j (by omega))).symm),rfl⟩
theorem inB_i {n lo hi:Int}:inB n lo hi=true ↔ lo ≤ n∧n ≤ hi:=by
 unfold inB
 simp
def okI (v:Val):Bool:=inB v.n (-2147483648) 2147483648
def smallE (av:List Val):Int:=if av.all okI=true then 0 else 1
theorem ksmall_any (vA:Option Addr) (vc:Nat) (av:List Val) {na:Nat} (w:World) (hna:na=av.length) (hV:ValsAt w vA av) (hl:na ≤ 9223372036854775806) :
  Calls Tryz.prog 72 #[.slice vA na vc] w fun e w'=>e=.returned (.int .i64 (smallE av))∧w=w':=by
 have HN:=Lib.hid hna
 have HV:=Lib.hid hV
 clear hna hV
 go_enter Tryz.func72,Tryz.ntmps72
 go_wp2
 go_loop [3] (fun i=>∃ q:Nat,q ≤ na∧i=.int .i64 q∧Hid (∀ j,j < q → okI (av.getD j default)=true)) (fun i=>na - (intOf i).toNat)
 case atStart=>exact ⟨0,Nat.zero_le _,rfl,fun j hj=>by omega⟩
 case round =>
  obtain ⟨q,hq,rfl,HOK⟩:=hrel
  by_cases hlt:q < na
  ·have hqa:q < av.length:=by rw [← HN.out]; exact hlt
   obtain ⟨v,hvv⟩:∃ v,v=av.getD q default:=⟨_,rfl⟩
   obtain ⟨bv,ov,rfl,hbv,_,_,_,_,_,v5,_⟩:=HV.out.at_ (k:=q) hqa hvv
   have HVV:=Lib.hid hvv
   clear hvv
   by_cases h1:v.n < -2147483648
   ·have HS:Hid (smallE av=1):=by
     unfold Hid smallE
     rw [if_neg]
     rw [List.all_eq_true]
     intro hh
     have h9:=hh v (by rw [HVV.out]; exact getD_mem hqa)
     unfold okI at h9
     rw [inB_i] at h9
     omega
    go_wp2_with fail
    go_ret
    exact ⟨ret_int HS.out.symm,rfl⟩
   ·by_cases h2:2147483648 < v.n
    ·have HS:Hid (smallE av=1):=by
      unfold Hid smallE
      rw [if_neg]
      rw [List.all_eq_true]
      intro hh
      have h9:=hh v (by rw [HVV.out]; exact getD_mem hqa)
      unfold okI at h9
      rw [inB_i] at h9
      omega
     go_wp2_with fail
     go_ret
     exact ⟨ret_int HS.out.symm,rfl⟩
    ·go_wp2_with fail
     refine ⟨⟨q + 1,by omega,by go_num,fun j hj=>?_⟩,by simp [intOf]; omega⟩
     rcases Nat.lt_or_ge j q with h | h
     ·exact HOK.out j h
     ·obtain rfl:j=q:=by omega
      rw [← HVV.out]
      unfold okI
      rw [inB_i]
      omega
  ·have HT:Hid (smallE av=0):=by
    unfold Hid smallE
    rw [if_pos]
    rw [List.all_eq_true]
    intro x hx
    obtain ⟨i,hi,rfl⟩:=List.getElem_of_mem hx
    have h9:=HOK.out i (by have:=HN.out; omega)
    rwa [List.getD,List.getElem?_eq_getElem hi,Option.getD_some] at h9
   go_wp2_with fail
   go_ret
   exact ⟨ret_int HT.out.symm,rfl⟩
theorem kitem_any (v:Val) (w:World):Calls Tryz.prog 117 #[.agg v.cells.toArray] w fun e w'=>e=.returned (.agg (itA v))∧Ext w w':=by
 have HZ:=Lib.hid sizeIt
 obtain ⟨⟨t0,t1,t2,t3,t4⟩,n,nl,er,⟨o0,o1,o2,o3,o4⟩⟩:=v
 have e:(Val.cells ⟨⟨t0,t1,t2,t3,t4⟩,n,nl,er,⟨o0,o1,o2,o3,o4⟩⟩).toArray=#[.int .i64 t0,.int .i64 t1,.string t2,.bool t3,.bool t4,.int .i64 n,.bool nl,.string er,.int .i64 o0,.int .i64 o1,.string o2,.bool o3,.bool o4]:=rfl
 rw [e]
 clear e
 go_enter Tryz.func117,Tryz.ntmps117
 go_wp2_with fail
 exact bodyPost_ret (results_cell_row rfl _ _ (w.heap.size + 1) 86 (itA ⟨⟨t0,t1,t2,t3,t4⟩,n,nl,er,⟨o0,o1,o2,o3,o4⟩⟩) (0,0) _ rfl (new2 w _ _ _) Tryz.underlying86 rfl HZ.out) rfl ⟨rfl,exA⟩
theorem kvalue_any (v:Val) (w:World):Calls Tryz.prog 75 #[.agg (itA v)] w fun e w'=>e=.returned (.agg (pv v.n v.null v.err).cells.toArray)∧Ext w w':=by
 have HZ:Hid ((Tryz.prog.info? 50).map (·.size)=some 13):=by unfold Hid; kernel_rfl
 obtain ⟨vt,n,nl,er,vo⟩:=v
 unfold itA
 simp only []
 go_enter Tryz.func75,Tryz.ntmps75
 go_wp2_with fail
 exact bodyPost_ret (results_cell_row rfl _ _ (w.heap.size + 1) 50 #[.int .i64 0,.int .i64 0,.string ⟨#[]⟩,.bool false,.bool false,.int .i64 n,.bool nl,.string er,.int .i64 0,.int .i64 0,.string ⟨#[]⟩,.bool false,.bool false] (0,0) _ rfl (new2 w _ _ _) Tryz.underlying50 rfl HZ.out) rfl ⟨rfl,exA⟩
noncomputable def askN (l:List Fc) (n:ByteArray) (av:List Val):Int :=
 if (checkE l).2.2=0 then (if indexS l n < 0 then 4 else if (av.length:Int)=(l.getD (indexS l n).toNat default).params then smallE av else 10) else (checkE l).2.2
def AlikeK (l m:List Fc) (n:ByteArray) (av:List Val) (ck:Bool):Prop :=
 askN m n av=askN l n av∧∀ en t en2 t2,askN l n av=0 → RunK l ck (.call 1 (indexS l n).toNat av) 0 en t → RunK m ck (.call 1 (indexS m n).toNat av) 0 en2 t2 → en=.long ∨ en2=en
theorem thr_alike {l m:List Fc} (h0:(checkE l).2.2=0) (ht:ThrL l m) (n:ByteArray) (av:List Val) (ck:Bool):AlikeK l m n av ck:=by
 obtain ⟨hv,_⟩:=check_ok h0
 have hx:=index_same ht.1 (fun k=>(ht.names k).1) n
 constructor
 ·unfold askN
  rw [thr_check ht h0,hx,(ht.names _).2,h0]
 ·intro en t en2 t2 _ h1 h2
  by_cases e:en=.long
  ·exact .inl e
  ·obtain ⟨t3,_,h3⟩:=thr_run hv ht h1 e .call (Nat.le_refl 0)
   rw [hx] at h2
   exact .inr (h2.det h3).1
theorem cut_alike {l m:List Fc} {n:ByteArray} (h0:(checkE l).2.2=0) (hm:CutL l (Need l (Roots l [n])) m) (hr:0 ≤ indexS l n) (av:List Val) (ck:Bool):AlikeK l m n av ck:=by
 obtain ⟨hv,_⟩:=check_ok h0
 have c:=hm.of
 obtain ⟨k,hk,hkl⟩:∃ k:Nat,indexS l n=k∧k < l.length:=by
  rcases index_spec l n with ⟨e,_⟩ | ⟨k,e,h,_⟩
  ·omega
  ·exact ⟨k,e,h⟩
 have cl:∀ i j,i < l.length → Need l (Roots l [n]) i → CallsTo l i j → Need l (Roots l [n]) j:=fun i j _ h h2=>.call h h2
 have hn:Need l (Roots l [n]) k:=.root ⟨n,List.mem_singleton.2 rfl,hk⟩
 obtain ⟨p,hp,e⟩:=c.pos hkl hn
 have hx:=c.index hv hk hp e
 have hl:=c.like p hp
 rw [e] at hl
 constructor
 ·unfold askN
  rw [c.check h0 cl,hx,hk,Int.toNat_natCast,Int.toNat_natCast,hl.params,h0]
  rw [if_pos rfl,if_pos rfl,if_neg (show ¬ ((p:Int) < 0) by omega),if_neg (show ¬ ((k:Int) < 0) by omega)]
 ·intro en t en2 t2 _ h1 h2
  rw [hk,Int.toNat_natCast] at h1
  rw [hx,Int.toNat_natCast] at h2
  have h3:=cut_run hv c cl h1 (c2:=.call 1 p av) (.call hp e)
  exact .inr (h2.det h3).1
section
variable {l:List Fc} {f:Fc} {x:Cd}
theorem kinst_ops (h:instS l f x=true):0 ≤ x.op∧x.op ≤ 19:=by
 by_cases c:0 ≤ x.op∧x.op ≤ 19
 ·exact c
 ·unfold instS shapeS at h
  rw [if_neg (by omega),if_neg (by omega),if_neg (by omega),if_neg (by omega),if_neg (by omega),if_neg (by omega),if_neg (by omega),if_neg (by omega),if_neg (by omega),if_neg (by omega)] at h
  cases h
theorem kinst_push (h:instS l f x=true) (e:x.op=0):x.ty.base=0 ∨ x.ty.base=1 ∨ (2 ≤ x.ty.base∧1 ≤ x.ty.bits∧x.ty.bits ≤ 31):=by
 unfold instS shapeS at h
 simp [e] at h
 exact pushS_row h.2.2.1
theorem kinst_place (h:instS l f x=true) (e:x.op=2 ∨ x.op=3) (h0:0 ≤ f.places) (h1:f.places ≤ 200):0 ≤ x.a∧x.a < f.places:=by
 unfold instS shapeS inB at h
 have hw:wrap64 (f.places - 1)=f.places - 1:=IntWalk.wrap64_in _ (by omega)
 rw [hw] at h
 rcases e with e | e <;>
 ·simp [e] at h
  omega
theorem kinst_oper (h:instS l f x=true) (e:x.op=5):(5 ≤ x.a∧x.a ≤ 17)∧1 ≤ x.ty.bits∧x.ty.bits ≤ 31:=by
 unfold instS shapeS inB at h
 simp [e] at h
 exact ⟨by omega,(isIntS_bits h.2.2.1).2⟩
theorem kinst_int (h:instS l f x=true) (e:x.op=7 ∨ x.op=9 ∨ x.op=10):1 ≤ x.ty.bits∧x.ty.bits ≤ 31:=by
 unfold instS shapeS inB at h
 rcases e with e | e | e <;>
 ·simp [e] at h
  exact (isIntS_bits h.2.2.1).2
theorem kinst_call (h:instS l f x=true) (e:x.op=16):∃ j:Nat,indexS l x.name=j∧j < l.length∧x.b=(l.getD j default).params:=by
 unfold instS shapeS inB at h
 simp [e] at h
 obtain ⟨h1,⟨h2,h3⟩,h4⟩:=h
 unfold indexS at h2 h3 ⊢
 rcases findI_cases (fun k=>(l.getD k default).name.toList == x.name.toList) l.length with ⟨e,_⟩ | ⟨k,e,hk,_⟩
 ·rw [e] at h2; omega
 ·rw [e] at h3 ⊢
  exact ⟨k,rfl,hk,by simpa using h3⟩
theorem kinst_stop (h:instS l f x=true) (e:x.op=19):1 ≤ x.a∧x.a ≤ 5:=by
 unfold instS shapeS inB at h
 simp [e] at h
 omega
end
end Go.Proofs.YtcoookehfhhhdaaGreatDoor.c
