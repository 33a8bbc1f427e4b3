/- What is read up to a place depends on the tokens up to it alone. No condition. -/
import Derived.Test.YtmmnhbhnjiajhaaGreatDoorBUu
namespace Go.Proofs.YtmmnhbhnjiajhaaGreatDoor.c
open Go.RowKit
set_option linter.unusedVariables false
set_option linter.unusedSimpArgs false
def rp:Rs → Nat
 | .ok _ a=>a
 | .bad k=>k
def rpT {α:Type}:Except Nat (α × Nat) → Nat
 | .ok (_,a)=>a
 | .error k=>k
structure Ag (L K:List Tok) (n:Nat):Prop where
 tx:∀ i,i ≤ n → tx K i=tx L i
 kd:∀ i,i ≤ n → kd_ K i=kd_ L i
theorem Ag.isW {L K:List Tok} {n:Nat} (h:Ag L K n) (i:Nat) (hi:i ≤ n):isW K i=isW L i:=by
 unfold Go.Proofs.YtmmnhbhnjiajhaaGreatDoor.c.isW
 rw [h.tx i hi,h.kd i hi]
theorem Ag.of {L K:List Tok} {n:Nat} (h:∀ i,i ≤ n → K[i]?=L[i]?):Ag L K n :=
 ⟨fun i hi=>by unfold Go.Proofs.YtmmnhbhnjiajhaaGreatDoor.c.tx; rw [h i hi],fun i hi=>by unfold kd_; rw [h i hi]⟩
def Pf (n b:Nat) (F G:Option Rs):Prop:=∀ r,F=some r → b ≤ rp r∧(rp r ≤ n → G=some r)
def PfT {α:Type} (n b:Nat) (F G:Except Nat (α × Nat)):Prop:=b ≤ rpT F∧(rpT F ≤ n → G=F)
section
variable {n b c:Nat} {L K:List Tok}
theorem Pf.ok {x y:Nd} (h:b ≤ c) (he:c ≤ n → y=x):Pf n b (some (.ok x c)) (some (.ok y c)):=fun r hr=>by
 cases hr; exact ⟨h,fun hn=>by rw [he hn]⟩
theorem Pf.bad (h:b ≤ c):Pf n b (some (.bad c)) (some (.bad c)):=fun r hr=>by
 cases hr; exact ⟨h,fun _=>rfl⟩
theorem Pf.le {F G:Option Rs} (h:Pf n c F G) (hb:b ≤ c):Pf n b F G:=fun r hr=>⟨Nat.le_trans hb (h r hr).1,(h r hr).2⟩
theorem Pf.call {P Q:Nt → Nat → Option Rs} (hP:∀ t a,Pf n a (P t a) (Q t a)) {t u:Nt} (h:b ≤ c) (he:c ≤ n → u=t):Pf n b (P t c) (Q u c):=fun r hr=>by
 have h2:=hP t c r hr
 exact ⟨Nat.le_trans h h2.1,fun hn=>by rw [he (Nat.le_trans h2.1 hn)]; exact h2.2 hn⟩
theorem Pf.thn {F G:Option Rs} {f g:Nd → Nat → Option Rs} (h:Pf n b F G) (k:∀ x c,b ≤ c → Pf n c (f x c) (g x c)):Pf n b (thn F f) (thn G g):=fun r hr=>by
 rcases thn_some hr with ⟨c,h1,h2⟩ | ⟨x,c,h1,h2⟩
 ·subst h2
  have h3:=h _ h1
  exact ⟨h3.1,fun hn=>by rw [h3.2 hn]; rfl⟩
 ·have h3:=h _ h1
  have h4:=k x c h3.1 r h2
  exact ⟨Nat.le_trans h3.1 h4.1,fun hn=>by rw [h3.2 (Nat.le_trans h4.1 hn)]; exact h4.2 hn⟩
theorem Pf.thnT {α:Type} {F G:Except Nat (α × Nat)} {f g:α → Nat → Option Rs} (h:PfT n b F G) (k:∀ x c,b ≤ c → Pf n c (f x c) (g x c)):Pf n b (thnT F f) (thnT G g):=fun r hr=>by
 unfold Go.Proofs.YtmmnhbhnjiajhaaGreatDoor.c.thnT at hr
 split at hr
 ·cases hr
  exact ⟨h.1,fun hn=>by rw [h.2 hn]; rfl⟩
 ·have h4:=k _ _ h.1 r hr
  exact ⟨Nat.le_trans h.1 h4.1,fun hn=>by rw [h.2 (Nat.le_trans h4.1 hn)]; exact h4.2 hn⟩
theorem Pf.thnO {o p:Option Nd} {f g:Nd → Option Rs} (h:b ≤ c) (he:c ≤ n → p=o) (k:∀ x,Pf n c (f x) (g x)):Pf n b (thnO o c f) (thnO p c g):=fun r hr=>by
 unfold Go.Proofs.YtmmnhbhnjiajhaaGreatDoor.c.thnO at hr
 split at hr
 ·cases hr
  exact ⟨h,fun hn=>by rw [he hn]; rfl⟩
 ·have h4:=k _ r hr
  exact ⟨Nat.le_trans h h4.1,fun hn=>by rw [he (Nat.le_trans h4.1 hn)]; exact h4.2 hn⟩
theorem Pf.ite {p q:Prop} [Decidable p] [Decidable q] {F G F' G':Option Rs} (he:c ≤ n → (q ↔ p)) (h1:p → Pf n c F G) (h2:¬ p → Pf n c F' G') (h:b ≤ c):Pf n b (if p then F else F') (if q then G else G'):=by
 refine Pf.le (c:=c) (fun r hr=>?_) h
 by_cases hp:p
 ·rw [if_pos hp] at hr
  have h3:=h1 hp r hr
  exact ⟨h3.1,fun hn=>by rw [if_pos ((he (Nat.le_trans h3.1 hn)).2 hp)]; exact h3.2 hn⟩
 ·rw [if_neg hp] at hr
  have h3:=h2 hp r hr
  exact ⟨h3.1,fun hn=>by rw [if_neg (fun hq=>hp ((he (Nat.le_trans h3.1 hn)).1 hq))]; exact h3.2 hn⟩
theorem Pf.wnt {s:ByteArray} {F G:Option Rs} (A:Ag L K n) (h:b ≤ c) (k:Pf n c F G):Pf n b (wnt L c s F) (wnt K c s G) :=
 Pf.ite (fun hn=>by rw [A.tx c hn]) (fun _=>k) (fun _=>Pf.bad (Nat.le_refl _)) h
theorem Pf.nam {F G:Option Rs} (A:Ag L K n) (h:b ≤ c) (k:Pf n c F G):Pf n b (nam L c F) (nam K c G) :=
 Pf.ite (fun hn=>by rw [A.isW c hn]) (fun _=>k) (fun _=>Pf.bad (Nat.le_refl _)) h
theorem PfT.le {α:Type} {F G:Except Nat (α × Nat)} (h:PfT n c F G) (hb:b ≤ c):PfT n b F G:=⟨Nat.le_trans hb h.1,h.2⟩
theorem rpT_ite {α:Type} {p:Prop} [Decidable p] {x:α} {a k:Nat}:rpT (if p then Except.ok (x,a) else Except.error k)=if p then a else k:=by
 split <;> rfl
theorem typS_pf (A:Ag L K n) (a:Nat) (e o v bo t nn:Bool):PfT n a (typS L a e o v bo t nn) (typS K a e o v bo t nn):=by
 have h1:∀ (x:Bool) (c:Nat),c ≤ (if x=true then c + 1 else c):=fun x c=>by split <;> omega
 have h2:a ≤ rpT (typS L a e o v bo t nn)∧(let er:=e && decide (Go.Proofs.YtmmnhbhnjiajhaaGreatDoor.c.tx L a=⟨#[33]⟩)
   let a1:=if er then a + 1 else a
   let op:=o && decide (Go.Proofs.YtmmnhbhnjiajhaaGreatDoor.c.tx L a1=⟨#[63]⟩)
   let a2:=if op then a1 + 1 else a1
   a2 ≤ rpT (typS L a e o v bo t nn)):=by
  unfold typS
  simp only [rpT_ite]
  generalize (e && decide (Go.Proofs.YtmmnhbhnjiajhaaGreatDoor.c.tx L a=⟨#[33]⟩))=er
  have i1:=h1 er a
  generalize (if er=true then a + 1 else a)=a1 at i1 ⊢
  generalize (o && decide (Go.Proofs.YtmmnhbhnjiajhaaGreatDoor.c.tx L a1=⟨#[63]⟩))=op
  have i2:=h1 op a1
  generalize (if op=true then a1 + 1 else a1)=a2 at i2 ⊢
  refine ⟨?_,?_⟩ <;> split <;> omega
 refine ⟨h2.1,fun hn=>?_⟩
 have h3:=Nat.le_trans h2.2 hn
 have h4:=Nat.le_trans h2.1 hn
 try simp only at h3
 unfold typS
 simp only
 rw [A.tx a h4]
 generalize (e && decide (Go.Proofs.YtmmnhbhnjiajhaaGreatDoor.c.tx L a=⟨#[33]⟩))=er at h3 ⊢
 generalize (if er=true then a + 1 else a)=a1 at h3 ⊢
 have i2:=h1 (o && decide (Go.Proofs.YtmmnhbhnjiajhaaGreatDoor.c.tx L a1=⟨#[63]⟩)) a1
 rw [A.tx a1 (Nat.le_trans i2 h3)]
 generalize (o && decide (Go.Proofs.YtmmnhbhnjiajhaaGreatDoor.c.tx L a1=⟨#[63]⟩))=op at h3 ⊢
 rw [A.tx _ h3,A.kd _ h3]
theorem cnum_pf (A:Ag L K n) (a:Nat) (lo:Int):PfT n a (cnumS L a lo) (cnumS K a lo):=by
 have h1:∀ (x:Bool) (c:Nat),c ≤ (if x=true then c + 1 else c):=fun x c=>by split <;> omega
 have h2:a ≤ rpT (cnumS L a lo)∧(if decide (Go.Proofs.YtmmnhbhnjiajhaaGreatDoor.c.tx L a=⟨#[45]⟩)=true then a + 1 else a) ≤ rpT (cnumS L a lo):=by
  unfold cnumS
  simp only [rpT_ite]
  generalize decide (Go.Proofs.YtmmnhbhnjiajhaaGreatDoor.c.tx L a=⟨#[45]⟩)=m
  have i1:=h1 m a
  generalize (if m=true then a + 1 else a)=a1 at i1 ⊢
  refine ⟨?_,?_⟩ <;> split <;> (first | omega | (split <;> omega))
 refine ⟨h2.1,fun hn=>?_⟩
 have h3:=Nat.le_trans h2.2 hn
 have h4:=Nat.le_trans h2.1 hn
 unfold cnumS
 simp only
 rw [A.tx a h4]
 generalize decide (Go.Proofs.YtmmnhbhnjiajhaaGreatDoor.c.tx L a=⟨#[45]⟩)=m at h3 ⊢
 rw [A.tx _ h3,A.kd _ h3]
theorem cnum2_pf (A:Ag L K n) (a:Nat) (lo:Int):PfT n a (if Go.Proofs.YtmmnhbhnjiajhaaGreatDoor.c.tx L a=⟨#[46,46]⟩ then cnumS L (a + 1) lo else .ok (lo,a)) (if Go.Proofs.YtmmnhbhnjiajhaaGreatDoor.c.tx K a=⟨#[46,46]⟩ then cnumS K (a + 1) lo else .ok (lo,a)):=by
 by_cases h:Go.Proofs.YtmmnhbhnjiajhaaGreatDoor.c.tx L a=⟨#[46,46]⟩
 ·rw [if_pos h]
  have h2:=cnum_pf A (a + 1) lo
  have h3:=h2.1
  exact ⟨by omega,fun hn=>by rw [A.tx a (by omega),if_pos h]; exact h2.2 hn⟩
 ·rw [if_neg h]
  exact ⟨Nat.le_refl _,fun hn=>by rw [A.tx a hn,if_neg h]⟩
theorem unrS_pf {P Q:Nt → Nat → Option Rs} (A:Ag L K n) (hP:∀ t a,Pf n a (P t a) (Q t a)) (a:Nat):Pf n a (unrS L P a) (unrS K Q a):=by
 intro r hr
 have hu:∀ (op:Int),Pf n (a + 1) (Go.Proofs.YtmmnhbhnjiajhaaGreatDoor.c.thn (P .un (a + 1)) fun x b=>some (.ok (exN op x) b)) (Go.Proofs.YtmmnhbhnjiajhaaGreatDoor.c.thn (Q .un (a + 1)) fun x b=>some (.ok (exN op x) b)):=fun op=>Pf.thn (hP _ _) fun x c _=>Pf.ok (Nat.le_refl _) fun _=>rfl
 unfold unrS at hr ⊢
 by_cases h1:Go.Proofs.YtmmnhbhnjiajhaaGreatDoor.c.tx L a=⟨#[45]⟩
 ·have h3:Pf n (a + 1) (if kd_ L (a + 1)=1 then Go.Proofs.YtmmnhbhnjiajhaaGreatDoor.c.thnO (litS (Go.Proofs.YtmmnhbhnjiajhaaGreatDoor.c.tx L (a + 1)) true) (a + 1) fun x=>P (.post x) (a + 2) else Go.Proofs.YtmmnhbhnjiajhaaGreatDoor.c.thn (P .un (a + 1)) fun x b=>some (.ok (exN 3 x) b)) (if kd_ K (a + 1)=1 then Go.Proofs.YtmmnhbhnjiajhaaGreatDoor.c.thnO (litS (Go.Proofs.YtmmnhbhnjiajhaaGreatDoor.c.tx K (a + 1)) true) (a + 1) fun x=>Q (.post x) (a + 2) else Go.Proofs.YtmmnhbhnjiajhaaGreatDoor.c.thn (Q .un (a + 1)) fun x b=>some (.ok (exN 3 x) b)) :=
   Pf.ite (c:=a + 1) (fun hn=>by rw [A.kd _ hn]) (fun _=>Pf.thnO (Nat.le_refl _) (fun hn=>by rw [A.tx _ hn]) fun x=>Pf.call hP (by omega) fun _=>rfl) (fun _=>hu 3) (Nat.le_refl _)
  have e1:∀ (M:List Tok) (R:Nt → Nat → Option Rs) (Z:Option Rs),Go.Proofs.YtmmnhbhnjiajhaaGreatDoor.c.tx M a=⟨#[45]⟩ → (if Go.Proofs.YtmmnhbhnjiajhaaGreatDoor.c.tx M a=⟨#[45]⟩∧kd_ M (a + 1)=1 then Go.Proofs.YtmmnhbhnjiajhaaGreatDoor.c.thnO (litS (Go.Proofs.YtmmnhbhnjiajhaaGreatDoor.c.tx M (a + 1)) true) (a + 1) fun x=>R (.post x) (a + 2) else if Go.Proofs.YtmmnhbhnjiajhaaGreatDoor.c.tx M a=⟨#[45]⟩ then Go.Proofs.YtmmnhbhnjiajhaaGreatDoor.c.thn (R .un (a + 1)) (fun x b=>some (.ok (exN 3 x) b)) else Z)=(if kd_ M (a + 1)=1 then Go.Proofs.YtmmnhbhnjiajhaaGreatDoor.c.thnO (litS (Go.Proofs.YtmmnhbhnjiajhaaGreatDoor.c.tx M (a + 1)) true) (a + 1) fun x=>R (.post x) (a + 2) else Go.Proofs.YtmmnhbhnjiajhaaGreatDoor.c.thn (R .un (a + 1)) fun x b=>some (.ok (exN 3 x) b)):=fun M R Z hm=>by
   by_cases hk:kd_ M (a + 1)=1
   ·rw [if_pos ⟨hm,hk⟩,if_pos hk]
   ·rw [if_neg (fun h=>hk h.2),if_pos hm,if_neg hk]
  rw [e1 L P _ h1] at hr
  have h4:=h3 r hr
  exact ⟨Nat.le_of_succ_le h4.1,fun hn=>by rw [e1 K Q _ ((A.tx a (by have:=h4.1; omega)).trans h1)]; exact h4.2 hn⟩
 ·have h3:Pf n a (if Go.Proofs.YtmmnhbhnjiajhaaGreatDoor.c.tx L a=⟨#[33]⟩ then Go.Proofs.YtmmnhbhnjiajhaaGreatDoor.c.thn (P .un (a + 1)) (fun x b=>some (.ok (exN 4 x) b)) else if Go.Proofs.YtmmnhbhnjiajhaaGreatDoor.c.tx L a=⟨#[116,114,121]⟩ then Go.Proofs.YtmmnhbhnjiajhaaGreatDoor.c.thn (P .un (a + 1)) (fun x b=>some (.ok (exN 32 x) b)) else Go.Proofs.YtmmnhbhnjiajhaaGreatDoor.c.thn (P .prim a) fun x b=>P (.post x) b) (if Go.Proofs.YtmmnhbhnjiajhaaGreatDoor.c.tx K a=⟨#[33]⟩ then Go.Proofs.YtmmnhbhnjiajhaaGreatDoor.c.thn (Q .un (a + 1)) (fun x b=>some (.ok (exN 4 x) b)) else if Go.Proofs.YtmmnhbhnjiajhaaGreatDoor.c.tx K a=⟨#[116,114,121]⟩ then Go.Proofs.YtmmnhbhnjiajhaaGreatDoor.c.thn (Q .un (a + 1)) (fun x b=>some (.ok (exN 32 x) b)) else Go.Proofs.YtmmnhbhnjiajhaaGreatDoor.c.thn (Q .prim a) fun x b=>Q (.post x) b) :=
   Pf.ite (c:=a) (fun hn=>by rw [A.tx _ hn]) (fun _=>(hu 4).le (by omega)) (fun _=>Pf.ite (c:=a) (fun hn=>by rw [A.tx _ hn]) (fun _=>(hu 32).le (by omega)) (fun _=>Pf.thn (hP _ _) fun x c hc=>hP _ _) (Nat.le_refl _)) (Nat.le_refl _)
  rw [if_neg (fun h=>h1 h.1),if_neg h1] at hr
  have h4:=h3 r hr
  refine ⟨h4.1,fun hn=>?_⟩
  have h5:¬ Go.Proofs.YtmmnhbhnjiajhaaGreatDoor.c.tx K a=⟨#[45]⟩:=fun h=>h1 ((A.tx a (Nat.le_trans h4.1 hn)).symm.trans h)
  rw [if_neg (fun h=>h5 h.1),if_neg h5]
  exact h4.2 hn
theorem step_pf {P Q:Nt → Nat → Option Rs} (A:Ag L K n) (hP:∀ t a,Pf n a (P t a) (Q t a)) (t:Nt) (a:Nat):Pf n a (stepG L P t a) (stepG K Q t a):=by
 have hx:=A.tx
 have hk:=A.kd
 cases t
 case un=>exact unrS_pf A hP a
 all_goals simp only [stepG,primS,stmS,varS,loopS,retS,choiceS,cssS,parS,valS,builtinS]
 all_goals repeat' first
   | exact Pf.bad (by omega)
   | refine Pf.wnt A (by omega) ?_
   | refine Pf.nam A (by omega) ?_
   | (refine Pf.thnO (by omega) (fun hn=>by rw [hx _ hn]) fun _=>?_)
   | (refine Pf.thn (Pf.call hP (by omega) fun _=>rfl) fun _ _ _=>?_)
   | (refine Pf.thn ((hP _ _).le (by omega)) fun _ _ _=>?_)
   | (refine Pf.thnT ((typS_pf A _ _ _ _ _ _ _).le (by omega)) fun _ _ _=>?_)
   | (refine Pf.thnT ((cnum_pf A _ _).le (by omega)) fun _ _ _=>?_)
   | (refine Pf.thnT ((cnum2_pf A _ _).le (by omega)) fun _ _ _=>?_)
   | (refine Pf.ok (by omega) fun hn=>?_; first | rfl | (simp (disch:=omega) only [hx,hk]))
   | (refine Pf.call hP (by omega) fun hn=>?_; first | rfl | (simp (disch:=omega) only [hx,hk]))
   | (refine Pf.ite (fun hn=>?_) (fun _=>?_) (fun _=>?_) (Nat.le_refl _); focus (first | exact Iff.rfl | (rw [hx _ hn]; done) | (rw [hk _ hn]; done) | (rw [hx _ hn,hk _ hn]; done)))
   | (refine Pf.ite (fun hn=>?_) (fun _=>?_) (fun _=>?_) (Nat.le_add_right _ 1); focus (first | (rw [hx _ hn]; done) | (rw [hk _ hn]; done) | (rw [hx _ hn,hk _ hn]; done)))
   | (refine Pf.ite (fun hn=>?_) (fun _=>?_) (fun _=>?_) (Nat.le_add_right _ 2); focus (first | (rw [hx _ hn]; done) | (rw [hk _ hn]; done) | (rw [hx _ hn,hk _ hn]; done)))
theorem gr_pf (A:Ag L K n):∀ (m:Nat) (t:Nt) (a:Nat),Pf n a (gr L m t a) (gr K m t a)
 | 0,_,_=>fun _ h=>by cases h
 | m + 1,t,a=>step_pf A (gr_pf A m) t a
theorem gram_pf (A:Ag L K n) (t:Nt) (a:Nat):Pf n a (gram L t a) (gram K t a):=fun r hr=>by
 obtain ⟨m,hm⟩:=gram_iff.1 hr
 have h:=gr_pf A m t a r hm
 exact ⟨h.1,fun hn=>gram_iff.2 ⟨m,h.2 hn⟩⟩
theorem paS_pf (A:Ag L K n) (a:Nat):Pf n a (paS L a) (paS K a):=by
 have h:∀ kn c,a ≤ c → Pf n a (paS2 L kn c) (paS2 K kn c):=fun kn c hc=>by
  unfold paS2
  exact Pf.nam A hc (Pf.wnt A (by omega) (Pf.thnT ((typS_pf A _ _ _ _ _ _ _).le (by omega)) fun x d hd=>Pf.ok (Nat.le_refl _) fun hn=>by rw [A.tx c (by omega)]))
 unfold paS
 exact Pf.ite (c:=a) (fun hn=>by rw [A.tx a hn]) (fun _=>h _ _ (by omega)) (fun _=>h _ _ (by omega)) (Nat.le_refl _)
theorem prS_pf (A:Ag L K n):∀ (m:Nat) (acc:Nd) (b:Nat),L.length - b ≤ m → Pf n b (prS L acc b) (prS K acc b)
 | m,acc,b,hm=>by
  intro r hr
  cases hp:paS L b with
  | none=>rw [prS,hp] at hr; cases hr
  | some r1 =>
   have h1:=paS_pf A b r1 hp
   cases r1 with
   | bad k =>
    rw [prS_bad hp] at hr; cases hr
    exact ⟨h1.1,fun hn=>prS_bad (h1.2 hn)⟩
   | ok y d =>
    have hl:=paS_comma hp
    have h2:Pf n d (if Go.Proofs.YtmmnhbhnjiajhaaGreatDoor.c.tx L d=⟨#[41]⟩ then some (.ok (acc.app y) (d + 1)) else Go.Proofs.YtmmnhbhnjiajhaaGreatDoor.c.wnt L d ⟨#[44]⟩ (prS L (acc.app y) (d + 1))) (if Go.Proofs.YtmmnhbhnjiajhaaGreatDoor.c.tx K d=⟨#[41]⟩ then some (.ok (acc.app y) (d + 1)) else Go.Proofs.YtmmnhbhnjiajhaaGreatDoor.c.wnt K d ⟨#[44]⟩ (prS K (acc.app y) (d + 1))):=by
     refine Pf.ite (c:=d) (fun hn=>by rw [A.tx d hn]) (fun _=>Pf.ok (by omega) fun _=>rfl) (fun _=>?_) (Nat.le_refl _)
     refine Pf.ite (c:=d) (fun hn=>by rw [A.tx d hn]) (fun h2=>?_) (fun _=>Pf.bad (Nat.le_refl _)) (Nat.le_refl _)
     have hd:=lt_tx h2 (by decide)
     cases m with
     | zero=>omega
     | succ m=>exact (prS_pf A m _ _ (by omega)).le (by omega)
    rw [prS_ok hp] at hr
    have h3:=h2 r hr
    exact ⟨by omega,fun hn=>by rw [prS_ok (h1.2 (Nat.le_trans h3.1 hn))]; exact h3.2 hn⟩
theorem fnF_pf (A:Ag L K n) {nm nm':ByteArray} (ps:Nd) (b:Nat) (he:b ≤ n → nm'=nm):Pf n b (fnF L nm ps b) (fnF K nm' ps b):=by
 unfold fnF
 exact Pf.thnT (typS_pf A _ _ _ _ _ _ _) fun t c hc=>Pf.thn (gram_pf A _ _) fun z d hd=>Pf.ok (Nat.le_refl _) fun hn=>by rw [he (by omega)]
theorem fnS_pf (A:Ag L K n) (a:Nat):Pf n a (fnS L a) (fnS K a):=by
 unfold fnS
 exact Pf.nam A (Nat.le_refl _) (Pf.wnt A (by omega) (Pf.ite (c:=a + 2) (fun hn=>by rw [A.tx _ hn]) (fun _=>(fnF_pf A _ _ fun hn=>A.tx a (by omega)).le (by omega))
  (fun _=>Pf.thn (prS_pf A _ _ _ (Nat.le_refl _)) fun x c hc=>fnF_pf A _ _ fun hn=>A.tx a (by omega)) (by omega)))
theorem cdS_pf (A:Ag L K n) (a:Nat):Pf n a (cdS L a) (cdS K a):=by
 unfold cdS
 exact Pf.nam A (Nat.le_refl _) (Pf.wnt A (by omega) (Pf.thnT ((typS_pf A _ _ _ _ _ _ _).le (by omega)) fun t b hb=>Pf.wnt A (Nat.le_refl _) (Pf.thn ((gram_pf A _ _).le (by omega)) fun x c hc=>Pf.wnt A (Nat.le_refl _) (Pf.ok (by omega) fun hn=>by rw [A.tx a (by omega)]))))
theorem dclS_pf (A:Ag L K n) (a:Nat):Pf n a (dclS L a) (dclS K a):=by
 unfold dclS
 exact Pf.ite (c:=a) (fun hn=>by rw [A.tx a hn]) (fun _=>(cdS_pf A _).le (by omega)) (fun _=>Pf.wnt A (Nat.le_refl _) ((fnS_pf A _).le (by omega))) (Nat.le_refl _)
theorem prgS_pf (A:Ag L K n) (hn:n < K.length):∀ (m:Nat) (acc:Nd) (a:Nat),L.length - a ≤ m → prgS L acc a=some (.bad n) → a ≤ n∧prgS K acc a=some (.bad n)
 | m,acc,a,hm,h=>by
  by_cases ha:a < L.length
  ·cases hd:dclS L a with
   | none=>rw [prgS,dif_pos ha,hd] at h; cases h
   | some r =>
    have h1:=dclS_pf A a r hd
    cases r with
    | bad k =>
     rw [prgS_bad ha hd] at h; cases h
     have h2:=h1.1
     simp only [rp] at h2
     exact ⟨h2,prgS_bad (by omega) (h1.2 (Nat.le_refl _))⟩
    | ok x c =>
     have hl:=dclS_lt x c hd
     rw [prgS_ok ha hd] at h
     cases m with
     | zero=>omega
     | succ m =>
      have h2:=prgS_pf A hn m _ _ (by omega) h
      exact ⟨by omega,by rw [prgS_ok (by omega) (h1.2 h2.1)]; exact h2.2⟩
  ·rw [prgS_end ha] at h; cases h
end
end Go.Proofs.YtmmnhbhnjiajhaaGreatDoor.c
