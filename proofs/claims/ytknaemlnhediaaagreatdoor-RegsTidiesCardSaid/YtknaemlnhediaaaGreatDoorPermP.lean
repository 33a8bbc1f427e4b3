/- Register code in which the registers of a function have other numbers: which lists of numbers are right, that the code is right, and that its runs are the same. No condition. What a step does, apart from the registers that it reads and writes; where a run stays. No condition. -/
import Derived.Test.YtknaemlnhediaaaGreatDoorSame
import Derived.Test.YtknaemlnhediaaaGreatDoorHm
import Derived.Test.YtknaemlnhediaaaGreatDoorSortc
namespace Go.Proofs.YtknaemlnhediaaaGreatDoor.c
open Go.RowKit
set_option linter.unusedVariables false
set_option linter.unusedSimpArgs false
inductive Ef where
 | done (e:En)
 | wr (v:Val)
 | mem (S:Nat → Val)
 | jump (t:Bool)
 | call
def efF (ck:Bool) (x:Rg) (a b:Val) (S:Nat → Val):Ef :=
 if x.op=0 then .wr (nv (wrapT x.ty x.a))
 else if x.op=1 then .wr (pv 0 true ⟨#[]⟩)
 else if x.op=2 then .wr a
 else if x.op=3 then .wr (S x.a.toNat)
 else if x.op=4 then .mem (upd S x.a.toNat b)
 else if x.op=10 then .jump a.null
 else if x.op=11 then .jump (!emp a.err)
 else if x.op=12 then .jump true
 else if x.op=13 then .jump (a.n == 0)
 else if x.op=14 then .call
 else if x.op=15 then .done (.ret a)
 else if x.op=16 then .wr (pv 0 false x.name)
 else if x.op=17 then .done (bif ck then .stop x.a else .ret default)
 else bif (numF ck x a b).2 != 0 then .done (.stop (numF ck x a b).2) else .wr (nv (numF ck x a b).1)
def Ef.app (x:Rg) (p:Nat) (R S:Nat → Val):Ef → Nx
 | .done e=>.done e
 | .wr v=>.go (p + 1) (upd R x.d.toNat v) S
 | .mem S'=>.go (p + 1) R S'
 | .jump t=>.go (bif t then x.d.toNat else p + 1) R S
 | .call=>.call x.name (x.args.map fun i=>S i.toNat) x.d.toNat
theorem stepF_ef (ck:Bool) (x:Rg) (p:Nat) (R S:Nat → Val):stepF ck x p R S=(efF ck x (R x.a.toNat) (R x.b.toNat) S).app x p R S:=by
 unfold stepF efF
 by_cases h:x.op=0
 ·rw [if_pos h,if_pos h]; rfl
 rw [if_neg h,if_neg h]; clear h
 by_cases h:x.op=1
 ·rw [if_pos h,if_pos h]; rfl
 rw [if_neg h,if_neg h]; clear h
 by_cases h:x.op=2
 ·rw [if_pos h,if_pos h]; rfl
 rw [if_neg h,if_neg h]; clear h
 by_cases h:x.op=3
 ·rw [if_pos h,if_pos h]; rfl
 rw [if_neg h,if_neg h]; clear h
 by_cases h:x.op=4
 ·rw [if_pos h,if_pos h]; rfl
 rw [if_neg h,if_neg h]; clear h
 by_cases h:x.op=10
 ·rw [if_pos h,if_pos h]; rfl
 rw [if_neg h,if_neg h]; clear h
 by_cases h:x.op=11
 ·rw [if_pos h,if_pos h]; rfl
 rw [if_neg h,if_neg h]; clear h
 by_cases h:x.op=12
 ·rw [if_pos h,if_pos h]; rfl
 rw [if_neg h,if_neg h]; clear h
 by_cases h:x.op=13
 ·rw [if_pos h,if_pos h]; rfl
 rw [if_neg h,if_neg h]; clear h
 by_cases h:x.op=14
 ·rw [if_pos h,if_pos h]; rfl
 rw [if_neg h,if_neg h]; clear h
 by_cases h:x.op=15
 ·rw [if_pos h,if_pos h]; rfl
 rw [if_neg h,if_neg h]; clear h
 by_cases h:x.op=16
 ·rw [if_pos h,if_pos h]; rfl
 rw [if_neg h,if_neg h]; clear h
 by_cases h:x.op=17
 ·rw [if_pos h,if_pos h]; rfl
 rw [if_neg h,if_neg h]; clear h
 cases ((numF ck x (R x.a.toNat) (R x.b.toNat)).2 != 0) <;> rfl
theorem numF_one {ck:Bool} {x:Rg} (h:5 ≤ x.op∧x.op ≤ 9) (v u u':Val):numF ck x v u=numF ck x v u':=by
 unfold numF
 by_cases h6:x.op=6
 ·rw [if_pos h6,if_pos h6]
 rw [if_neg h6,if_neg h6]
 by_cases h9:x.op=9
 ·rw [if_pos h9,if_pos h9]
 rw [if_neg h9,if_neg h9]
 by_cases h5:x.op=5
 ·rw [if_pos h5,if_pos h5]
 rw [if_neg h5,if_neg h5]
 by_cases h7:x.op=7
 ·rw [if_pos h7,if_pos h7]
 rw [if_neg h7,if_neg h7,if_pos (by omega),if_pos (by omega)]
theorem parts_num {op:Int} (h:5 ≤ op∧op ≤ 9):partsR op=(1,1,0):=by
 have:op=5 ∨ op=6 ∨ op=7 ∨ op=8 ∨ op=9:=by omega
 rcases this with rfl | rfl | rfl | rfl | rfl <;> rfl
theorem efF_like {ck:Bool} {x y:Rg} {a b a' b':Val} {S:Nat → Val} (hop:(0 ≤ x.op∧x.op ≤ 17) ∨ (105 ≤ x.op∧x.op ≤ 123)) (h1:y.op=x.op) (h2:y.ty=x.ty) (h3:y.name=x.name)
  (ha:(partsR x.op).2.1 ≠ 1 → y.a=x.a) (va:(partsR x.op).2.1=1 → a'=a) (vb:(partsR x.op).2.2=1 → b'=b) :
  efF ck y a' b' S=efF ck x a b S:=by
 have hn:numF ck y a' b'=numF ck x a' b':=by unfold numF; rw [h1,h2]
 unfold efF
 rw [hn,h1,h2,h3]
 by_cases h:x.op=0
 ·rw [if_pos h,if_pos h,ha (by rw [h]; decide)]
 rw [if_neg h,if_neg h]
 by_cases h:x.op=1
 ·rw [if_pos h,if_pos h]
 rw [if_neg h,if_neg h]
 by_cases h:x.op=2
 ·rw [if_pos h,if_pos h,va (by rw [h]; rfl)]
 rw [if_neg h,if_neg h]
 by_cases h:x.op=3
 ·rw [if_pos h,if_pos h,ha (by rw [h]; decide)]
 rw [if_neg h,if_neg h]
 by_cases h:x.op=4
 ·rw [if_pos h,if_pos h,ha (by rw [h]; decide),vb (by rw [h]; rfl)]
 rw [if_neg h,if_neg h]
 by_cases h:x.op=10
 ·rw [if_pos h,if_pos h,va (by rw [h]; rfl)]
 rw [if_neg h,if_neg h]
 by_cases h:x.op=11
 ·rw [if_pos h,if_pos h,va (by rw [h]; rfl)]
 rw [if_neg h,if_neg h]
 by_cases h:x.op=12
 ·rw [if_pos h,if_pos h]
 rw [if_neg h,if_neg h]
 by_cases h:x.op=13
 ·rw [if_pos h,if_pos h,va (by rw [h]; rfl)]
 rw [if_neg h,if_neg h]
 by_cases h:x.op=14
 ·rw [if_pos h,if_pos h]
 rw [if_neg h,if_neg h]
 by_cases h:x.op=15
 ·rw [if_pos h,if_pos h,va (by rw [h]; rfl)]
 rw [if_neg h,if_neg h]
 by_cases h:x.op=16
 ·rw [if_pos h,if_pos h]
 rw [if_neg h,if_neg h]
 by_cases h:x.op=17
 ·rw [if_pos h,if_pos h,ha (by rw [h]; decide)]
 rw [if_neg h,if_neg h]
 rcases Classical.em (5 ≤ x.op∧x.op ≤ 9) with h5 | h5
 ·rw [va (by rw [parts_num h5]),numF_one h5 a b' b]
 ·rw [va (by rw [partsR_op (by omega)]),vb (by rw [partsR_op (by omega)])]
theorem efF_kind {ck:Bool} {x:Rg} {a b:Val} {S:Nat → Val} (hop:(0 ≤ x.op∧x.op ≤ 17) ∨ (105 ≤ x.op∧x.op ≤ 123)) :
  match efF ck x a b S with
  | .done _=>True
  | .wr _=>(partsR x.op).1=1∧goesR x.op=true∧x.op ≠ 14
  | .mem _=>(partsR x.op).1=0∧goesR x.op=true
  | .jump t=>(partsR x.op).1=3∧(t=false → goesR x.op=true)
  | .call=>x.op=14:=by
 unfold efF
 by_cases h:x.op=0
 ·rw [if_pos h,h]; exact ⟨rfl,rfl,by decide⟩
 rw [if_neg h]
 by_cases h:x.op=1
 ·rw [if_pos h,h]; exact ⟨rfl,rfl,by decide⟩
 rw [if_neg h]
 by_cases h:x.op=2
 ·rw [if_pos h,h]; exact ⟨rfl,rfl,by decide⟩
 rw [if_neg h]
 by_cases h:x.op=3
 ·rw [if_pos h,h]; exact ⟨rfl,rfl,by decide⟩
 rw [if_neg h]
 by_cases h:x.op=4
 ·rw [if_pos h,h]; exact ⟨rfl,rfl⟩
 rw [if_neg h]
 by_cases h:x.op=10
 ·rw [if_pos h,h]; exact ⟨rfl,fun _=>rfl⟩
 rw [if_neg h]
 by_cases h:x.op=11
 ·rw [if_pos h,h]; exact ⟨rfl,fun _=>rfl⟩
 rw [if_neg h]
 by_cases h:x.op=12
 ·rw [if_pos h,h]; exact ⟨rfl,fun h=>by cases h⟩
 rw [if_neg h]
 by_cases h:x.op=13
 ·rw [if_pos h,h]; exact ⟨rfl,fun _=>rfl⟩
 rw [if_neg h]
 by_cases h14:x.op=14
 ·rw [if_pos h14]; exact h14
 rw [if_neg h14]
 by_cases h15:x.op=15
 ·rw [if_pos h15]; trivial
 rw [if_neg h15]
 by_cases h:x.op=16
 ·rw [if_pos h,h]; exact ⟨rfl,rfl,by decide⟩
 rw [if_neg h]
 by_cases h17:x.op=17
 ·rw [if_pos h17]; trivial
 rw [if_neg h17]
 cases hb:((numF ck x a b).2 != 0)
 ·refine ⟨?_,?_,h14⟩
  ·rcases Classical.em (5 ≤ x.op∧x.op ≤ 9) with h5 | h5
   ·rw [parts_num h5]
   ·rw [partsR_op (by omega)]
  ·unfold goesR
   simp
   omega
 ·trivial
theorem GoodF.ef_next {l:List Rf} {f:Rf} (g:GoodF l f) {p:Nat} (hp:p < f.code.length) {ck:Bool} {R S:Nat → Val} {q:Nat} {R' S':Nat → Val} (h:stepF ck (f.code.getD p default) p R S=.go q R' S'):q < f.code.length:=by
 have gx:=g.at_ (getD_mem hp)
 rw [stepF_ef] at h
 have hk:=efF_kind (ck:=ck) (a:=R (f.code.getD p default).a.toNat) (b:=R (f.code.getD p default).b.toNat) (S:=S) gx.op
 cases he:efF ck (f.code.getD p default) (R (f.code.getD p default).a.toNat) (R (f.code.getD p default).b.toNat) S with
 | done e=>rw [he] at h; cases h
 | wr v=>rw [he] at h hk; cases h; exact g.next hp hk.2.1
 | mem S1=>rw [he] at h hk; cases h; exact g.next hp hk.2
 | jump q1 =>
  rw [he] at h hk
  cases h
  cases q1
  ·exact g.next hp (hk.2 rfl)
  ·have h1:=gx.d
   rw [hk.1] at h1
   have:=isPartB_place h1
   show (f.code.getD p default).d.toNat < _
   omega
 | call=>rw [he] at h; cases h
theorem GoodF.ef_call {l:List Rf} {f:Rf} (g:GoodF l f) {p:Nat} (hp:p < f.code.length) {ck:Bool} {R S:Nat → Val} {nm:ByteArray} {av:List Val} {r:Nat} (h:stepF ck (f.code.getD p default) p R S=.call nm av r) :
  p + 1 < f.code.length∧(indexR l nm).toNat < l.length∧(f.code.getD p default).op=14∧nm=(f.code.getD p default).name∧av=(f.code.getD p default).args.map (fun i=>S i.toNat)∧r=(f.code.getD p default).d.toNat:=by
 have gx:=g.at_ (getD_mem hp)
 rw [stepF_ef] at h
 have hk:=efF_kind (ck:=ck) (a:=R (f.code.getD p default).a.toNat) (b:=R (f.code.getD p default).b.toNat) (S:=S) gx.op
 cases he:efF ck (f.code.getD p default) (R (f.code.getD p default).a.toNat) (R (f.code.getD p default).b.toNat) S with
 | done e=>rw [he] at h; cases h
 | wr v=>rw [he] at h; cases h
 | mem S1=>rw [he] at h; cases h
 | jump q1=>rw [he] at h; cases h
 | call =>
  rw [he] at h hk
  cases h
  obtain ⟨j,hj,hl,_⟩:=gx.call hk
  exact ⟨g.next hp (by rw [hk]; rfl),by rw [hj]; simpa using hl,hk,rfl,rfl,rfl⟩
def cntP (tq:List Int) (n:Nat):Nat:=((List.range n).map fun r:Nat=>tq.count (r:Int)).sum
theorem cntP_succ (tq:List Int) (n:Nat):cntP tq (n + 1)=cntP tq n + tq.count (n:Int):=by
 unfold cntP
 rw [List.range_succ,List.map_append,List.sum_append]
 simp
def offB (n:Nat) (y:Int):Bool:=!(decide (0 ≤ y) && decide (y < (n:Int)))
theorem cntP_cons (y:Int) (t:List Int) (n:Nat):cntP (y :: t) n=cntP t n + if offB n y=true then 0 else 1:=by
 induction n with
 | zero =>
  have:offB 0 y=true:=by unfold offB; simp; omega
  rw [if_pos this]
  rfl
 | succ n ih =>
  rw [cntP_succ,cntP_succ,ih,List.count_cons]
  by_cases h:y=(n:Int)
  ·subst h
   have h1:offB n (n:Int)=true:=by unfold offB; simp
   have h2:¬ offB (n + 1) (n:Int)=true:=by unfold offB; simp; omega
   rw [if_pos h1,if_neg h2]
   simp
   omega
  ·have h1:¬ (y == (n:Int))=true:=by simpa using h
   have h2:offB (n + 1) y=offB n y:=by
    unfold offB
    rw [Bool.eq_iff_iff]
    simp
    omega
   rw [h2,if_neg h1]
   omega
theorem cntP_all (tq:List Int) (n:Nat):cntP tq n + tq.countP (offB n)=tq.length:=by
 induction tq with
 | nil =>
  have:cntP [] n=0:=by
   induction n with
   | zero=>rfl
   | succ n ih=>rw [cntP_succ,ih]; rfl
  rw [this]
  rfl
 | cons y t ih =>
  rw [cntP_cons,List.countP_cons,List.length_cons]
  cases offB n y <;> simp <;> omega
theorem sum_ones (f:Nat → Nat):∀ n,(∀ r,r < n → 1 ≤ f r) → n ≤ ((List.range n).map f).sum∧∀ r,r < n → n + f r ≤ ((List.range n).map f).sum + 1
 | 0,_=>⟨Nat.zero_le _,fun r hr=>by omega⟩
 | n + 1,h=>by
  obtain ⟨h1,h2⟩:=sum_ones f n fun r hr=>h r (by omega)
  have h3:=h n (by omega)
  rw [List.range_succ,List.map_append,List.sum_append,List.map_cons,List.map_nil,List.sum_cons,List.sum_nil]
  refine ⟨by omega,fun r hr=>?_⟩
  rcases Nat.lt_or_ge r n with h4 | h4
  ·have:=h2 r h4; omega
  ·obtain rfl:r=n:=by omega
   omega
def permB (tq:List Int) (n:Int):Bool:=decide ((tq.length:Int)=n) && (List.range tq.length).all fun r:Nat=>decide ((r:Int) ∈ tq)
theorem permB_iff {tq:List Int} {n:Int}:permB tq n=true ↔ (tq.length:Int)=n∧∀ r:Nat,r < tq.length → (r:Int) ∈ tq:=by
 unfold permB
 simp
theorem perm_once {tq:List Int} {n:Int} (h:permB tq n=true):(∀ r:Nat,r < tq.length → tq.count (r:Int)=1)∧(∀ y,y ∈ tq → 0 ≤ y∧y < n)∧tq.Nodup:=by
 obtain ⟨hn,hm⟩:=permB_iff.1 h
 have h1:∀ r:Nat,r < tq.length → 1 ≤ tq.count (r:Int):=fun r hr=>List.count_pos_iff.2 (hm r hr)
 obtain ⟨h2,h3⟩:=sum_ones (fun r:Nat=>tq.count (r:Int)) tq.length h1
 have h4:=cntP_all tq tq.length
 have e:((List.range tq.length).map fun r:Nat=>tq.count (r:Int)).sum=cntP tq tq.length:=rfl
 rw [e] at h2 h3
 have h5:tq.countP (offB tq.length)=0:=by omega
 have h6:∀ y,y ∈ tq → 0 ≤ y∧y < n:=by
  intro y hy
  have:=List.countP_eq_zero.1 h5 y hy
  unfold offB at this
  simp at this
  omega
 have h7:∀ r:Nat,r < tq.length → tq.count (r:Int)=1:=fun r hr=>by
  have:=h1 r hr
  have:=h3 r hr
  omega
 refine ⟨h7,h6,List.nodup_iff_count.2 fun a=>?_⟩
 by_cases ha:a ∈ tq
 ·have:=h6 a ha
  have h8:=h7 a.toNat (by omega)
  rw [show ((a.toNat:Nat):Int)=a by omega] at h8
  omega
 ·rw [List.count_eq_zero.2 ha]
  omega
def mv (tq:List Int) (r:Int):Int:=tq.getD r.toNat 0
theorem mv_in {tq:List Int} {n r:Int} (h:permB tq n=true) (hr:0 ≤ r∧r < n):0 ≤ mv tq r∧mv tq r < n:=by
 have hn:=(permB_iff.1 h).1
 have hl:r.toNat < tq.length:=by omega
 refine (perm_once h).2.1 _ ?_
 unfold mv
 rw [List.getD,List.getElem?_eq_getElem hl]
 exact List.getElem_mem hl
theorem mv_inj {tq:List Int} {n r s:Int} (h:permB tq n=true) (hr:0 ≤ r∧r < n) (hs:0 ≤ s∧s < n) (e:mv tq r=mv tq s):r=s:=by
 have hn:=(permB_iff.1 h).1
 have h1:r.toNat < tq.length:=by omega
 have h2:s.toNat < tq.length:=by omega
 have hd:=(perm_once h).2.2
 unfold mv at e
 rw [List.getD,List.getD,List.getElem?_eq_getElem h1,List.getElem?_eq_getElem h2,Option.getD_some,Option.getD_some] at e
 have hp:=List.pairwise_iff_getElem.1 hd
 rcases Nat.lt_trichotomy r.toNat s.toNat with h3 | h3 | h3
 ·exact absurd e (hp _ _ h1 h2 h3)
 ·omega
 ·exact absurd e.symm (hp _ _ h2 h1 h3)
def RelP (n:Int) (tq:List Int) (R R':Nat → Val):Prop:=∀ r:Int,0 ≤ r → r < n → R' (mv tq r).toNat=R r.toNat
theorem RelP.upd {n:Int} {tq:List Int} {R R':Nat → Val} (ok:permB tq n=true) (h:RelP n tq R R') {d:Int} (hd:0 ≤ d∧d < n) (v:Val):RelP n tq (upd R d.toNat v) (upd R' (mv tq d).toNat v):=by
 intro r h0 h1
 unfold c.upd
 by_cases e:r=d
 ·subst e
  rw [if_pos rfl,if_pos rfl]
 ·rw [if_neg,if_neg]
  ·exact h r h0 h1
  ·omega
  ·intro h2
   have:=mv_in ok ⟨h0,h1⟩
   have:=mv_in ok hd
   exact e (mv_inj ok ⟨h0,h1⟩ hd (by omega))
inductive CP (l:List Rf) (k:Nat) (tq:List Int):Cfg → Cfg → Prop where
 | call {d j av}:j < l.length → CP l k tq (.call d j av) (.call d j av)
 | at_ {d j p R R' S}:j < l.length → p < (l.getD j default).code.length → (j=k → RelP (l.getD k default).regs tq R R') → (j ≠ k → R'=R) → CP l k tq (.at_ d j p R S) (.at_ d j p R' S)
theorem GoodX.dreg {l:List Rf} {f:Rf} {x:Rg} (gx:GoodX l f x) (h:(partsR x.op).1=1):0 ≤ x.d∧x.d < f.regs:=by
 have:=gx.d
 rw [h] at this
 exact isPartB_reg this
end Go.Proofs.YtknaemlnhediaaaGreatDoor.c
