/- Which registers are live behind an instruction: plainly, by ways through the code; what a table of sets that no round changes says. No condition. The table of regs.live: plainly, what one step of a round keeps, and what a round without a change tells. No condition. The reference's way to what is live: a queue of places and those that were seen, plainly. No condition. What Live and Dead say of code: plainly. No condition. -/
import Derived.Test.YtknaemlnhediaaaGreatDoorSortc
import Derived.Test.YtknaemlnhediaaaGreatDoorSlots
namespace Go.Proofs.YtknaemlnhediaaaGreatDoor.c
open Go.RowKit
set_option linter.unusedVariables false
set_option linter.unusedSimpArgs false
def nextL (x:Rg) (p:Nat):List Nat:=(bif goesR x.op then [p + 1] else []) ++ (bif leadsR x.op then [x.d.toNat] else [])
def wrB (x:Rg) (r:Int):Bool:=writesR x && x.d == r
inductive LiveI (c:List Rg) (r:Int):Nat → Prop where
 | read {p}:p < c.length → readsB (c.getD p default) r=true → LiveI c r p
 | step {p q}:p < c.length → wrB (c.getD p default) r=false → q ∈ nextL (c.getD p default) p → LiveI c r q → LiveI c r p
def LiveO (c:List Rg) (r:Int) (p:Nat):Prop:=∃ q,q ∈ nextL (c.getD p default) p∧LiveI c r q
open Classical in
noncomputable def liveB (c:List Rg) (p:Nat) (r:Int):Bool:=decide (LiveO c r p)
theorem liveB_iff {c:List Rg} {p:Nat} {r:Int}:liveB c p r=true ↔ LiveO c r p:=by unfold liveB; simp
theorem GoodF.next_in {l:List Rf} {f:Rf} (g:GoodF l f) {p q:Nat} (hp:p < f.code.length) (hq:q ∈ nextL (f.code.getD p default) p):q < f.code.length:=by
 unfold nextL at hq
 rcases List.mem_append.1 hq with h | h
 ·cases hg:goesR (f.code.getD p default).op with
  | false=>rw [hg] at h; cases h
  | true =>
   rw [hg] at h
   have:q=p + 1:=by simpa using h
   subst this
   exact g.next hp hg
 ·cases hg:leadsR (f.code.getD p default).op with
  | false=>rw [hg] at h; cases h
  | true =>
   rw [hg] at h
   have hq':q=(f.code.getD p default).d.toNat:=by simpa using h
   subst hq'
   have gx:=(g.at_ (getD_mem hp)).d
   have h3:(partsR (f.code.getD p default).op).1=3:=by
    unfold leadsR at hg
    simp only [Bool.or_eq_true,beq_iff_eq] at hg
    rcases hg with h | h | h | h <;> rw [h] <;> rfl
   rw [h3] at gx
   have:=isPartB_place gx
   omega
def outT (B:Nat → Nat → Bool) (x:Rg) (p r:Nat):Bool:=(goesR x.op && B (p + 1) r) || (leadsR x.op && B x.d.toNat r)
def inT (B:Nat → Nat → Bool) (x:Rg) (p r:Nat):Bool:=readsB x (r:Nat) || (!wrB x (r:Nat) && outT B x p r)
theorem outT_iff {B:Nat → Nat → Bool} {x:Rg} {p r:Nat}:outT B x p r=true ↔ ∃ q,q ∈ nextL x p∧B q r=true:=by
 unfold outT nextL
 cases goesR x.op <;> cases leadsR x.op <;> simp
theorem outT_mono {B B':Nat → Nat → Bool} (h:∀ q r,B q r=true → B' q r=true) {x:Rg} {p r:Nat} (h1:outT B x p r=true):outT B' x p r=true:=by
 obtain ⟨q,a,b⟩:=outT_iff.1 h1
 exact outT_iff.2 ⟨q,a,h _ _ b⟩
theorem inT_mono {B B':Nat → Nat → Bool} (h:∀ q r,B q r=true → B' q r=true) {x:Rg} {p r:Nat} (h1:inT B x p r=true):inT B' x p r=true:=by
 unfold inT at h1 ⊢
 rw [Bool.or_eq_true,Bool.and_eq_true] at h1 ⊢
 exact h1.imp id fun h2=>⟨h2.1,outT_mono h h2.2⟩
theorem inT_live {c:List Rg} {B:Nat → Nat → Bool} (h:∀ q r,B q r=true → LiveI c (r:Nat) q) {p r:Nat} (hp:p < c.length) (h1:inT B (c.getD p default) p r=true):LiveI c (r:Nat) p:=by
 unfold inT at h1
 rw [Bool.or_eq_true,Bool.and_eq_true] at h1
 rcases h1 with h1 | h1
 ·exact .read hp h1
 ·obtain ⟨q,a,b⟩:=outT_iff.1 h1.2
  exact .step hp (by simpa using h1.1) a (h _ _ b)
theorem fix_live {c:List Rg} {B:Nat → Nat → Bool} {r:Nat} (h:∀ p,p < c.length → B p r=inT B (c.getD p default) p r) {p:Nat} (hl:LiveI c (r:Nat) p):B p r=true:=by
 induction hl with
 | read hp h1=>rw [h _ hp]; unfold inT; rw [h1]; rfl
 | step hp h1 h2 _ ih =>
  rw [h _ hp]
  unfold inT
  rw [h1,outT_iff.2 ⟨_,h2,ih⟩]
  simp
theorem fix_out {c:List Rg} {B:Nat → Nat → Bool} {r:Nat} (h:∀ p,p < c.length → B p r=inT B (c.getD p default) p r) (hs:∀ q r,B q r=true → LiveI c (r:Nat) q) (p:Nat):outT B (c.getD p default) p r=liveB c p (r:Nat):=by
 rw [Bool.eq_iff_iff,outT_iff,liveB_iff]
 unfold LiveO
 exact ⟨fun ⟨q,a,b⟩=>⟨q,a,hs _ _ b⟩,fun ⟨q,a,b⟩=>⟨q,a,fix_live h b⟩⟩
theorem closed_live {c:List Rg} {r:Int} {S:Nat → Prop} (h1:∀ p,S p → readsB (c.getD p default) r=false) (h2:∀ p,S p → wrB (c.getD p default) r=false → ∀ q,q ∈ nextL (c.getD p default) p → S q) {p:Nat} (hl:LiveI c r p):¬ S p:=by
 induction hl with
 | read hp h=>intro hS; rw [h1 _ hS] at h; cases h
 | step hp h3 h4 _ ih=>intro hS; exact ih (h2 _ hS h3 _ h4)
theorem live_reads {c:List Rg} {r:Int} {p:Nat} (h:LiveI c r p):∃ q,q < c.length∧readsB (c.getD q default) r=true:=by
 induction h with
 | read hp h=>exact ⟨_,hp,h⟩
 | step _ _ _ _ ih=>exact ih
theorem readsB_in {l:List Rf} {f:Rf} (g:GoodF l f) {p:Nat} {r:Int} (hp:p < f.code.length) (h:readsB (f.code.getD p default) r=true):0 ≤ r∧r < f.regs:=by
 have gx:=g.at_ (getD_mem hp)
 unfold readsB at h
 simp only [Bool.or_eq_true,Bool.and_eq_true,beq_iff_eq] at h
 rcases h with ⟨h1,rfl⟩ | ⟨h1,rfl⟩
 ·have:=gx.a; rw [h1] at this; exact isPartB_reg this
 ·have:=gx.b; rw [h1] at this; exact isPartB_reg this
noncomputable def deadB (c:List Rg) (p:Nat):Bool :=
 ((c.getD p default).op == 0 || ((c.getD p default).op == 1 || ((c.getD p default).op == 2 || ((c.getD p default).op == 3 || ((c.getD p default).op == 6 || (c.getD p default).op == 16))))) && !liveB c p (c.getD p default).d
def tabB (T:List (Nat → Bool)) (q r:Nat):Bool:=T.getD q (fun _=>false) r
def outS (T:List (Nat → Bool)) (x:Rg) (p r:Nat):Bool:=decide (r < 6) && outT (tabB T) x p r
def inS (T:List (Nat → Bool)) (x:Rg) (p r:Nat):Bool:=decide (r < 6) && inT (tabB T) x p r
structure TabOk (c:List Rg) (T:List (Nat → Bool)):Prop where
 len:T.length=c.length + 1
 sound:∀ q r,tabB T q r=true → LiveI c (r:Nat) q
 grow:∀ q r,q < c.length → tabB T q r=true → inS T (c.getD q default) q r=true
theorem tbl_set {T:List (Nat → Bool)} {p:Nat} (h:p < T.length) (s:Nat → Bool) (q r:Nat):tabB (T.set p s) q r=if q=p then s r else tabB T q r:=by
 unfold tabB
 by_cases e:q=p
 ·subst e
  rw [if_pos rfl,List.getD,List.getElem?_set_self h]
  rfl
 ·rw [if_neg e,List.getD,List.getD,List.getElem?_set_ne (Ne.symm e)]
theorem TabOk.up {c:List Rg} {T:List (Nat → Bool)} (h:TabOk c T) {p:Nat} (hp:p < c.length) :
  TabOk c (T.set p (inS T (c.getD p default) p))∧∀ q r,tabB T q r=true → tabB (T.set p (inS T (c.getD p default) p)) q r=true:=by
 have hl:p < T.length:=by rw [h.len]; omega
 have hm:∀ q r,tabB T q r=true → tabB (T.set p (inS T (c.getD p default) p)) q r=true:=fun q r hq=>by
  rw [tbl_set hl]
  by_cases e:q=p
  ·subst e
   rw [if_pos rfl]
   exact h.grow q r hp hq
  ·rw [if_neg e]
   exact hq
 refine ⟨⟨by rw [List.length_set]; exact h.len,fun q r hq=>?_,fun q r hql hq=>?_⟩,hm⟩
 ·rw [tbl_set hl] at hq
  by_cases e:q=p
  ·subst e
   rw [if_pos rfl] at hq
   unfold inS at hq
   rw [Bool.and_eq_true] at hq
   exact inT_live h.sound hp hq.2
  ·rw [if_neg e] at hq
   exact h.sound q r hq
 ·have h6:inS T (c.getD q default) q r=true:=by
   rw [tbl_set hl] at hq
   by_cases e:q=p
   ·subst e
    rw [if_pos rfl] at hq
    exact hq
   ·rw [if_neg e] at hq
    exact h.grow q r hql hq
  unfold inS at h6 ⊢
  rw [Bool.and_eq_true] at h6 ⊢
  exact ⟨h6.1,inT_mono hm h6.2⟩
theorem tbl_start (c:List Rg):TabOk c (List.replicate (c.length + 1) fun _=>false):=by
 have h0:∀ q r,tabB (List.replicate (c.length + 1) fun _=>false) q r=false:=fun q r=>by
  unfold tabB
  rw [List.getD,List.getElem?_replicate]
  split <;> rfl
 exact ⟨by simp,fun q r h=>absurd ((h0 q r).symm.trans h) Bool.false_ne_true,fun q r _ h=>absurd ((h0 q r).symm.trans h) Bool.false_ne_true⟩
def cntR (s:Nat → Bool):Nat:=(s 0).toNat + (s 1).toNat + (s 2).toNat + (s 3).toNat + (s 4).toNat + (s 5).toNat
def cntT (T:List (Nat → Bool)):Nat → Nat
 | 0=>0
 | n + 1=>cntT T n + cntR (tabB T n)
theorem toNat_le {a b:Bool} (h:a=true → b=true):a.toNat ≤ b.toNat:=by cases a <;> cases b <;> simp_all
theorem cntR_mono {s t:Nat → Bool} (h:∀ r,s r=true → t r=true):cntR s ≤ cntR t:=by
 unfold cntR
 have h0:=toNat_le (h 0)
 have h1:=toNat_le (h 1)
 have h2:=toNat_le (h 2)
 have h3:=toNat_le (h 3)
 have h4:=toNat_le (h 4)
 have h5:=toNat_le (h 5)
 omega
theorem cntR_le (s:Nat → Bool):cntR s ≤ 6:=by
 unfold cntR
 have h:=fun r=>toNat_le (a:=s r) (b:=true) (fun _=>rfl)
 have h0:=h 0
 have h1:=h 1
 have h2:=h 2
 have h3:=h 3
 have h4:=h 4
 have h5:=h 5
 simp only [Bool.toNat_true] at h0 h1 h2 h3 h4 h5
 omega
theorem cntR_lt {s t:Nat → Bool} (h:∀ r,s r=true → t r=true) (hne:∃ r,r < 6∧s r ≠ t r):cntR s < cntR t:=by
 obtain ⟨r,hr,hn⟩:=hne
 have hs:s r=false:=by
  cases e:s r
  ·rfl
  ·rw [e,h r e] at hn; exact absurd rfl hn
 have ht:t r=true:=by
  cases e:t r
  ·rw [hs,e] at hn; exact absurd rfl hn
  ·rfl
 unfold cntR
 have h0:=toNat_le (h 0)
 have h1:=toNat_le (h 1)
 have h2:=toNat_le (h 2)
 have h3:=toNat_le (h 3)
 have h4:=toNat_le (h 4)
 have h5:=toNat_le (h 5)
 rcases (show r=0 ∨ r=1 ∨ r=2 ∨ r=3 ∨ r=4 ∨ r=5 by omega) with rfl | rfl | rfl | rfl | rfl | rfl <;> (rw [hs,ht]; simp only [Bool.toNat_true,Bool.toNat_false]; omega)
theorem cntT_le (T:List (Nat → Bool)) (n:Nat):cntT T n ≤ 6 * n:=by
 induction n with
 | zero=>exact Nat.le_refl _
 | succ n ih =>
  have:=cntR_le (tabB T n)
  unfold cntT
  omega
theorem cntT_mono {T U:List (Nat → Bool)} (h:∀ q r,tabB T q r=true → tabB U q r=true) (n:Nat):cntT T n ≤ cntT U n:=by
 induction n with
 | zero=>exact Nat.le_refl _
 | succ n ih =>
  have:=cntR_mono (h n)
  unfold cntT
  omega
theorem cntT_lt {T U:List (Nat → Bool)} (h:∀ q r,tabB T q r=true → tabB U q r=true) {n p:Nat} (hp:p < n) (hne:∃ r,r < 6∧tabB T p r ≠ tabB U p r):cntT T n < cntT U n:=by
 induction n with
 | zero=>omega
 | succ n ih =>
  unfold cntT
  by_cases e:p=n
  ·subst e
   have h1:=cntT_mono h p
   have h2:=cntR_lt (h p) hne
   omega
  ·have h1:=ih (by omega)
   have h2:=cntR_mono (h n)
   omega
theorem tbl_live {c:List Rg} {T:List (Nat → Bool)} (h:TabOk c T) (hf:∀ p,p < c.length → ∀ r,r < 6 → tabB T p r=inS T (c.getD p default) p r) {p r:Nat} (hr:r < 6):outS T (c.getD p default) p r=liveB c p (r:Nat):=by
 unfold outS
 rw [show decide (r < 6)=true from decide_eq_true hr,Bool.true_and]
 refine fix_out (fun p hp=>?_) h.sound p
 rw [hf p hp r hr]
 unfold inS
 rw [show decide (r < 6)=true from decide_eq_true hr,Bool.true_and]
theorem TabOk.same {c:List Rg} {T:List (Nat → Bool)} (h:TabOk c T) {p:Nat} (hp:p < c.length) (he:∀ r,r < 6 → tabB T p r=inS T (c.getD p default) p r):T.set p (inS T (c.getD p default) p)=T:=by
 have hl:p < T.length:=by rw [h.len]; omega
 have hf:T[p]=inS T (c.getD p default) p:=by
  funext r
  have e:tabB T p r=T[p] r:=by unfold tabB; rw [List.getD,List.getElem?_eq_getElem hl]; rfl
  rw [← e]
  by_cases hr:r < 6
  ·exact he r hr
  ·cases ht:tabB T p r with
   | true=>exact (h.grow p r hp ht).symm
   | false =>
    unfold inS
    rw [show decide (r < 6)=false from decide_eq_false hr,Bool.false_and]
 rw [← hf,List.set_getElem_self]
theorem TabOk.more {c:List Rg} {T:List (Nat → Bool)} (h:TabOk c T) {p:Nat} (hp:p < c.length) (he:¬ ∀ r,r < 6 → tabB T p r=inS T (c.getD p default) p r):cntT T c.length < cntT (T.set p (inS T (c.getD p default) p)) c.length:=by
 have hl:p < T.length:=by rw [h.len]; omega
 refine cntT_lt (h.up hp).2 hp ?_
 refine Classical.byContradiction fun hn=>he fun r hr=>Classical.byContradiction fun h2=>hn ⟨r,hr,?_⟩
 rw [tbl_set hl,if_pos rfl]
 exact h2
def RndOk (c:List Rg) (T H:List (Nat → Bool)) (q:Nat):Prop:=∀ p,q ≤ p → p < c.length → ∀ r,r < 6 → tabB T p r=inS T (c.getD p default) p r∧tabB H p r=outS T (c.getD p default) p r
theorem RndOk.step {c:List Rg} {T H:List (Nat → Bool)} {q:Nat} (h:RndOk c T H (q + 1)) (hq:q < c.length) (hH:q < H.length) (he:∀ r,r < 6 → tabB T q r=inS T (c.getD q default) q r):RndOk c T (H.set q (outS T (c.getD q default) q)) q:=fun p h1 h2 r hr=>by
 rw [tbl_set hH]
 by_cases e:p=q
 ·subst e
  rw [if_pos rfl]
  exact ⟨he r hr,rfl⟩
 ·rw [if_neg e]
  exact h p (by omega) h2 r hr
theorem RndOk.live {c:List Rg} {T H:List (Nat → Bool)} (h:TabOk c T) (k:RndOk c T H 0) {p:Nat} (hp:p < c.length) {r:Nat} (hr:r < 6):tabB H p r=liveB c p (r:Nat):=by
 rw [(k p (Nat.zero_le _) hp r hr).2]
 exact tbl_live h (fun p hp r hr=>(k p (Nat.zero_le _) hp r hr).1) hr
def setS (M:Nat → Bool) (k:Nat):Nat → Bool:=fun j=>if j=k then true else M j
def unS (M:Nat → Bool):Nat → Nat
 | 0=>0
 | n + 1=>unS M n + if M n=true then 0 else 1
theorem unS_far {M:Nat → Bool} {k:Nat}:∀ {n:Nat},n ≤ k → unS (setS M k) n=unS M n
 | 0,_=>rfl
 | n + 1,h=>by
  unfold unS
  rw [unS_far (Nat.le_of_succ_le h)]
  have e:setS M k n=M n:=by unfold setS; rw [if_neg (by omega)]
  rw [e]
theorem unS_set {M:Nat → Bool} {k:Nat} (hM:M k=false):∀ {n:Nat},k < n → unS (setS M k) n + 1=unS M n
 | 0,h=>by omega
 | n + 1,h=>by
  unfold unS
  by_cases e:k=n
  ·subst e
   rw [unS_far (Nat.le_refl _),hM]
   simp [setS]
  ·have e2:setS M k n=M n:=by unfold setS; rw [if_neg (fun e3=>e e3.symm)]
   rw [e2,← unS_set hM (show k < n by omega)]
   omega
theorem unS_le (M:Nat → Bool):∀ n,unS M n ≤ n
 | 0=>Nat.le_refl _
 | n + 1=>by
  have:=unS_le M n
  unfold unS
  split <;> omega
def qMs (n:Nat) (M:Nat → Bool) (T:List Nat):Nat:=T.length + 2 * unS M n
theorem nextL_len (x:Rg) (p:Nat):(nextL x p).length ≤ 2:=by
 unfold nextL
 cases goesR x.op <;> cases leadsR x.op <;> simp
structure LQ (c:List Rg) (r:Int) (p0:Nat) (M:Nat → Bool) (T:List Nat):Prop where
 inT:∀ q,q ∈ T → q < c.length
 sound:∀ q,q ∈ T → LiveI c r q → LiveO c r p0
 start:∀ q,q ∈ nextL (c.getD p0 default) p0 → M q=true ∨ q ∈ T
 seen:∀ q,M q=true → readsB (c.getD q default) r=false∧(wrB (c.getD q default) r=false → ∀ q2,q2 ∈ nextL (c.getD q default) q → M q2=true ∨ q2 ∈ T)
theorem LQ.begin_ {c:List Rg} {r:Int} {p0:Nat} (h:∀ q,q ∈ nextL (c.getD p0 default) p0 → q < c.length):LQ c r p0 (fun _=>false) (nextL (c.getD p0 default) p0) :=
 ⟨h,fun q hq hl=>⟨q,hq,hl⟩,fun q hq=>.inr hq,fun q hq=>by cases hq⟩
theorem LQ.skip {c:List Rg} {r:Int} {p0 k:Nat} {M:Nat → Bool} {T:List Nat} (h:LQ c r p0 M (k :: T)) (hk:M k=true):LQ c r p0 M T:=by
 have one:∀ q,M q=true ∨ q ∈ k :: T → M q=true ∨ q ∈ T:=fun q hq=>by
  rcases hq with h1 | h1
  ·exact .inl h1
  ·rcases List.mem_cons.1 h1 with rfl | h2
   ·exact .inl hk
   ·exact .inr h2
 exact ⟨fun q hq=>h.inT q (List.mem_cons_of_mem _ hq),fun q hq=>h.sound q (List.mem_cons_of_mem _ hq),fun q hq=>one q (h.start q hq),fun q hq=>⟨(h.seen q hq).1,fun hw q2 hq2=>one q2 ((h.seen q hq).2 hw q2 hq2)⟩⟩
theorem LQ.hit {c:List Rg} {r:Int} {p0 k:Nat} {M:Nat → Bool} {T:List Nat} (h:LQ c r p0 M (k :: T)) (hr:readsB (c.getD k default) r=true):liveB c p0 r=true :=
 liveB_iff.2 (h.sound k (List.mem_cons_self ..) (.read (h.inT k (List.mem_cons_self ..)) hr))
theorem LQ.mark {c:List Rg} {r:Int} {p0 k:Nat} {M:Nat → Bool} {T L:List Nat} (h:LQ c r p0 M (k :: T)) (hr:readsB (c.getD k default) r=false) (hL:L=if wrB (c.getD k default) r=true then [] else nextL (c.getD k default) k)
  (hin:∀ q,q ∈ nextL (c.getD k default) k → q < c.length):LQ c r p0 (setS M k) (T ++ L):=by
 have hs:∀ q,M q=true → setS M k q=true:=fun q hq=>by
  unfold setS
  split
  ·rfl
  ·exact hq
 have one:∀ q,M q=true ∨ q ∈ k :: T → setS M k q=true ∨ q ∈ T ++ L:=fun q hq=>by
  rcases hq with h1 | h1
  ·exact .inl (hs q h1)
  ·rcases List.mem_cons.1 h1 with rfl | h2
   ·exact .inl (by unfold setS; rw [if_pos rfl])
   ·exact .inr (List.mem_append_left _ h2)
 have hk:=h.inT k (List.mem_cons_self ..)
 refine ⟨fun q hq=>?_,fun q hq hl=>?_,fun q hq=>one q (h.start q hq),fun q hq=>?_⟩
 ·rcases List.mem_append.1 hq with h1 | h1
  ·exact h.inT q (List.mem_cons_of_mem _ h1)
  ·rw [hL] at h1
   split at h1
   ·cases h1
   ·exact hin q h1
 ·rcases List.mem_append.1 hq with h1 | h1
  ·exact h.sound q (List.mem_cons_of_mem _ h1) hl
  ·rw [hL] at h1
   split at h1
   ·cases h1
   ·rename_i hw
    exact h.sound k (List.mem_cons_self ..) (.step hk (by simpa using hw) h1 hl)
 ·by_cases e:q=k
  ·subst e
   refine ⟨hr,fun hw q2 hq2=>.inr (List.mem_append_right _ ?_)⟩
   rw [hL,if_neg (by rw [hw]; decide)]
   exact hq2
  ·have hq':M q=true:=by unfold setS at hq; rwa [if_neg e] at hq
   exact ⟨(h.seen q hq').1,fun hw q2 hq2=>one q2 ((h.seen q hq').2 hw q2 hq2)⟩
theorem LQ.end_ {c:List Rg} {r:Int} {p0:Nat} {M:Nat → Bool} (h:LQ c r p0 M []):liveB c p0 r=false:=by
 have none:∀ q,M q=true ∨ q ∈ ([]:List Nat) → M q=true:=fun q hq=>hq.elim id fun h2=>by cases h2
 cases hl:liveB c p0 r with
 | false=>rfl
 | true =>
  obtain ⟨q,hq,hi⟩:=liveB_iff.1 hl
  exact absurd (none q (h.start q hq)) (closed_live (S:=fun p=>M p=true) (fun p hp=>(h.seen p hp).1) (fun p hp hw q2 hq2=>none q2 ((h.seen p hp).2 hw q2 hq2)) hi)
theorem qMs_skip (n:Nat) (M:Nat → Bool) (k:Nat) (T:List Nat):qMs n M T + 1=qMs n M (k :: T):=by unfold qMs; rw [List.length_cons]; omega
theorem qMs_mark {n:Nat} {M:Nat → Bool} {k:Nat} {T L:List Nat} (hM:M k=false) (hk:k < n) (hL:L.length ≤ 2):qMs n (setS M k) (T ++ L) + 1 ≤ qMs n M (k :: T):=by
 have:=unS_set hM hk
 unfold qMs
 rw [List.length_append,List.length_cons]
 omega
theorem qMs_start (c:List Rg) (n:Nat) (x:Rg) (p:Nat):qMs n (fun _=>false) (nextL x p) ≤ 2 + 2 * n:=by
 have h1:=nextL_len x p
 have h2:=unS_le (fun _=>false) n
 unfold qMs
 omega
def idleB (op:Int):Bool:=op == 0 || (op == 1 || (op == 2 || (op == 3 || (op == 6 || op == 16))))
theorem deadB_eq (c:List Rg) (p:Nat):deadB c p=(idleB (c.getD p default).op && !liveB c p (c.getD p default).d):=rfl
theorem idle_iff {op:Int}:idleB op=true ↔ op=0 ∨ op=1 ∨ op=2 ∨ op=3 ∨ op=6 ∨ op=16:=by
 unfold idleB
 simp only [Bool.or_eq_true,beq_iff_eq]
theorem idle_reg {l:List Rf} {f:Rf} {x:Rg} (g:GoodX l f x) (h:idleB x.op=true):0 ≤ x.d∧x.d < f.regs:=by
 have hd:=g.d
 have h1:(partsR x.op).1=1:=by rcases idle_iff.1 h with h | h | h | h | h | h <;> rw [h] <;> rfl
 rw [h1] at hd
 exact isPartB_reg hd
end Go.Proofs.YtknaemlnhediaaaGreatDoor.c
