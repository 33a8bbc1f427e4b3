/- Contracts of the reference's reads, asked, Uses, Writes, SameInts. Conditions: lengths. Contracts of the reference's writes, next and live: a register is live behind an instruction. Conditions: right code. Contracts of the reference's Live, isDead, Dead and SameLists. The table strings.asciiSpace holds what its text lays; lengths are bounded. Contracts of the reference's isDead and Dead. The table strings.asciiSpace holds what its text lays; lengths are bounded. Contracts of the reference's isDead and Dead. The table strings.asciiSpace holds what its text lays; lengths are bounded. Contract of the reference's SameLists, over lists that are the same. Conditions: lengths. -/
import Derived.Test.YtknaemlnhediaaaGreatDoorSortc
import Derived.Test.YtknaemlnhediaaaGreatDoorRvk
import Derived.OwnWalk
import Derived.Test.YtknaemlnhediaaaGreatDoorIq
import Derived.Test.YtknaemlnhediaaaGreatDoorLiveP
import Derived.Test.YtknaemlnhediaaaGreatDoorSlots
import Derived.Deep.LoopGhost
namespace Go.Proofs.YtknaemlnhediaaaGreatDoor.c
open Go.RowKit
set_option linter.unusedVariables false
set_option maxRecDepth 100000
set_option maxHeartbeats 6400000
set_option linter.unusedSimpArgs false
theorem hreads_any (op d a b:Int) (ty:Ty) (nm:ByteArray) (A:Option Addr) (cap:Nat) (args:List Int) (r:Int) (w:World) :
  Calls Tryz.prog 101 #[.agg #[.int .i64 op,.int .i64 d,.int .i64 a,.int .i64 b,.int .i64 ty.base,.int .i64 ty.bits,.string ty.name,.bool ty.opt,.bool ty.err,.string nm,.slice A args.length cap],.int .i64 r] w fun e w'=>e=.returned (.bool (readsB ⟨op,d,a,b,ty,nm,A,cap,args⟩ r))∧Ext w w':=by
 obtain ⟨p,q,s,hp⟩:∃ p q s,partsR op=(p,q,s):=⟨_,_,_,rfl⟩
 have HR:Hid (readsB ⟨op,d,a,b,ty,nm,A,cap,args⟩ r=((q == 1 && a == r) || (s == 1 && b == r))):=by unfold Hid readsB; simp only []; rw [hp]
 have HP:Hid (∀ w1,Calls Tryz.prog 103 #[.int .i64 op] w1 fun e w'=>e=.returned (.tuple #[.int .i64 p,.int .i64 q,.int .i64 s])∧w1=w'):=by
  intro w1
  have h:=parts_any op w1
  rwa [hp] at h
 clear hp
 obtain ⟨e1,he1⟩:∃ e1,(q == 1)=e1:=⟨_,rfl⟩
 obtain ⟨e2,he2⟩:∃ e2,(s == 1)=e2:=⟨_,rfl⟩
 obtain ⟨e3,he3⟩:∃ e3,(a == r)=e3:=⟨_,rfl⟩
 have HE:Hid (readsB ⟨op,d,a,b,ty,nm,A,cap,args⟩ r=((e1 && e3) || (e2 && (b == r)))):=by unfold Hid; rw [HR.out,he1,he2,he3]
 clear HR
 cases e1 <;> cases e2 <;> cases e3
 all_goals
  go_enter Tryz.func101,Tryz.ntmps101
  go_wp2_with (first | (go_at_call 103; refine (HP.out _).mono ?_; rintro r w' ⟨rfl,rfl⟩))
  go_ret
  exact ⟨ret_bool (by rw [HE.out]; rfl),exA⟩
theorem hwr_any (op d a b:Int) (ty:Ty) (nm:ByteArray) (A:Option Addr) (cap:Nat) (args:List Int) (r:Int) (w:World) :
  Calls Tryz.prog 186 #[.agg #[.int .i64 op,.int .i64 d,.int .i64 a,.int .i64 b,.int .i64 ty.base,.int .i64 ty.bits,.string ty.name,.bool ty.opt,.bool ty.err,.string nm,.slice A args.length cap],.int .i64 r] w fun e w'=>e=.returned (.bool (wrB ⟨op,d,a,b,ty,nm,A,cap,args⟩ r))∧Ext w w':=by
 obtain ⟨p,q,s,hp⟩:∃ p q s,partsR op=(p,q,s):=⟨_,_,_,rfl⟩
 have HR:Hid (wrB ⟨op,d,a,b,ty,nm,A,cap,args⟩ r=((p == 1) && (d == r))):=by unfold Hid wrB writesR; simp only []; rw [hp]
 have HP:Hid (∀ w1,Calls Tryz.prog 103 #[.int .i64 op] w1 fun e w'=>e=.returned (.tuple #[.int .i64 p,.int .i64 q,.int .i64 s])∧w1=w'):=by
  intro w1
  have h:=parts_any op w1
  rwa [hp] at h
 clear hp
 obtain ⟨e1,he1⟩:∃ e1,(p == 1)=e1:=⟨_,rfl⟩
 obtain ⟨e3,he3⟩:∃ e3,(d == r)=e3:=⟨_,rfl⟩
 have HE:Hid (wrB ⟨op,d,a,b,ty,nm,A,cap,args⟩ r=(e1 && e3)):=by unfold Hid; rw [HR.out,he1,he3]
 clear HR
 cases e1 <;> cases e3
 all_goals
  go_enter Tryz.func186,Tryz.ntmps186
  go_wp2_with (first | (go_at_call 103; refine (HP.out _).mono ?_; rintro r w' ⟨rfl,rfl⟩))
  go_ret
  exact ⟨ret_bool (by rw [HE.out]; rfl),exA⟩
theorem IQue.at_ {w:World} {base:Nat} {v:Value} {l:List Nat} (h:IQue w base v l):∃ A c,v=.slice A l.length c∧At w A l.length 1 (fun i _=>.int .i64 (l.getD i 0:Nat)):=by
 rcases h with ⟨rfl,rfl⟩ | ⟨g,off,cap,cur,rfl,hb,hB,hc,hm,hs,hj⟩
 ·exact ⟨none,0,rfl,At.nil _ _ _ _⟩
 ·refine ⟨_,cap,rfl,fun _=>⟨g,off,rfl,hB.lt,fun i j hi hj2=>?_⟩⟩
  obtain rfl:j=0:=by omega
  rw [hB.cell,Nat.mul_one,Nat.add_zero]
  exact hj i hi
theorem Blk.new' {w:World} {g:Nat} {t:TypeId} {cs:Array Value} (hg:g=w.heap.size):Blk (w.alloc (.cells cs t)) g t cs:=by rw [hg]; exact Blk.new _ _ _
theorem IQue.lit {w:World} {base g:Nat} (l:List Nat) {n:Nat} (hn:n=l.length) (hb:base ≤ g) {cs:Array Value} (hc:cs=(l.map fun (k:Nat)=>Value.int .i64 (k:Int)).toArray) (h:Blk w g 3 cs) (hl:n ≤ maxLen):IQue w base (.slice (some ⟨g,0,none⟩) n n) l:=by
 subst hn
 subst hc
 refine .inr ⟨g,0,_,_,rfl,hb,h,Nat.le_refl _,hl,by simp,fun j hj=>?_⟩
 simp [List.getD,hj]
theorem hnext_any (f:Rf) (p:Nat) (w:World) (hC:RgAt w f.A f.code) (hp:p < f.code.length) (hfew:f.code.length ≤ 6000) (hd:leadsR (f.code.getD p default).op=true → 0 ≤ (f.code.getD p default).d) :
  Calls Tryz.prog 185 #[f.val,.int .i64 p] w fun e w'=>∃ v,e=.returned v∧IQue w' w.heap.size v (nextL (f.code.getD p default) p)∧Ext w w':=by
 obtain ⟨n,hn⟩:∃ n,n=f.code.length:=⟨_,rfl⟩
 obtain ⟨x,hx⟩:∃ x,x=f.code.getD p default:=⟨_,rfl⟩
 unfold Rf.val
 rw [← hn] at hfew ⊢
 obtain ⟨b2,o2,hA2,hb2,d0,d1,d2,d3,d4,d5,d6,d7,d8,d9,d10,_⟩:=hC.at_ hp hx
 rw [← hx] at hd ⊢
 have hpn:p < n:=by omega
 have HD:=Lib.hid hd
 rw [hA2]
 have HZ:Hid ((Tryz.prog.info? 67).map (·.size)=some 11):=by unfold Hid; kernel_rfl
 have hw1:IntKind.i64.wrap ((p:Int) + 1)=(p:Int) + 1:=IntWalk.i64_in _ (by omega)
 clear hC hp hn hx hA2 hd
 have hop:(x.op=15 ∨ x.op=17) ∨ x.op=12 ∨ (x.op=10 ∨ x.op=11 ∨ x.op=13) ∨ (x.op ≠ 10∧x.op ≠ 11∧x.op ≠ 12∧x.op ≠ 13∧x.op ≠ 15∧x.op ≠ 17):=by omega
 rcases hop with hop | hop | hop | hop
 ·have HL:Hid (nextL x p=[]):=by unfold Hid nextL; rcases hop with h | h <;> rw [h] <;> rfl
  rw [HL.out]
  obtain ⟨t,ht⟩:∃ t,(x.op == 15)=t:=⟨_,rfl⟩
  have h17:t=false → (x.op == 17)=true:=fun h=>by
   rw [h] at ht
   rcases hop with h1 | h1
   ·rw [h1] at ht; cases ht
   ·rw [h1]; rfl
  clear hop
  cases t
  case' false=>have q17:=h17 rfl
  all_goals
   clear h17
   go_enter Tryz.func185,Tryz.ntmps185
   go_wp2_with fail
   go_ret
   exact ⟨_,rfl,IQue.nil _ _,exA⟩
 ·have HL:Hid (nextL x p=[x.d.toNat]):=by unfold Hid nextL; rw [hop]; rfl
  have HDN:Hid (0 ≤ x.d):=HD.out (by rw [hop]; rfl)
  rw [HL.out]
  have q15:(x.op == 15)=false:=by rw [hop]; rfl
  have q17:(x.op == 17)=false:=by rw [hop]; rfl
  have q12:(x.op == 12)=true:=by rw [hop]; rfl
  clear hop
  go_enter Tryz.func185,Tryz.ntmps185
  go_wp2_with fail
  go_ret
  refine ⟨_,rfl,IQue.lit [x.d.toNat] rfl ?_ ?_ (Blk.new' (by simp)) (by unfold maxLen; omega),exA⟩
  ·omega
  ·have:=HDN.out; simp [Int.toNat_of_nonneg this]
 ·have HL:Hid (nextL x p=[p + 1,x.d.toNat]):=by unfold Hid nextL; rcases hop with h | h | h <;> rw [h] <;> rfl
  have HDN:Hid (0 ≤ x.d):=HD.out (by rcases hop with h | h | h <;> rw [h] <;> rfl)
  rw [HL.out]
  have q15:(x.op == 15)=false:=by rw [beq_eq_false_iff_ne]; omega
  have q17:(x.op == 17)=false:=by rw [beq_eq_false_iff_ne]; omega
  have q12:(x.op == 12)=false:=by rw [beq_eq_false_iff_ne]; omega
  obtain ⟨t,ht⟩:∃ t,(x.op == 10)=t:=⟨_,rfl⟩
  obtain ⟨u,hu⟩:∃ u,(x.op == 11)=u:=⟨_,rfl⟩
  have h13:t=false → u=false → (x.op == 13)=true:=fun h h2=>by
   rw [h] at ht
   rw [h2] at hu
   rcases hop with h1 | h1 | h1
   ·rw [h1] at ht; cases ht
   ·rw [h1] at hu; cases hu
   ·rw [h1]; rfl
  clear hop
  cases t <;> cases u
  case' false.false=>have q13:=h13 rfl rfl
  all_goals
   clear h13
   go_enter Tryz.func185,Tryz.ntmps185
   go_wp2_with fail
   go_ret
   refine ⟨_,rfl,IQue.lit [p + 1,x.d.toNat] rfl ?_ ?_ (Blk.new' (by simp)) (by unfold maxLen; omega),exA⟩
   ·omega
   ·have:=HDN.out; simp [Int.toNat_of_nonneg this]
 ·have HL:Hid (nextL x p=[p + 1]):=by
   have e1:goesR x.op=true:=by unfold goesR; simp; omega
   have e2:leadsR x.op=false:=by unfold leadsR; simp; omega
   unfold Hid nextL
   rw [e1,e2]
   rfl
  rw [HL.out]
  have q15:(x.op == 15)=false:=by rw [beq_eq_false_iff_ne]; omega
  have q17:(x.op == 17)=false:=by rw [beq_eq_false_iff_ne]; omega
  have q12:(x.op == 12)=false:=by rw [beq_eq_false_iff_ne]; omega
  have q10:(x.op == 10)=false:=by rw [beq_eq_false_iff_ne]; omega
  have q11:(x.op == 11)=false:=by rw [beq_eq_false_iff_ne]; omega
  have q13:(x.op == 13)=false:=by rw [beq_eq_false_iff_ne]; omega
  clear hop
  go_enter Tryz.func185,Tryz.ntmps185
  go_wp2_with fail
  go_ret
  refine ⟨_,rfl,IQue.lit [p + 1] rfl ?_ ?_ (Blk.new' (by simp)) (by unfold maxLen; omega),exA⟩
  ·omega
  ·simp
structure LqSt (w0 w:World) (bx gn n:Nat) (F:Array Value) (v:Value) (M:Nat → Bool) (T:List Nat):Prop where
 ext:Ext w0 w
 box:Blk w bx 59 F
 row:RowAt w gn 4 n (fun j=>.bool (M j))
 que:IQue w (gn + 1) v T
 lo:w0.heap.size ≤ bx∧bx < gn
section
variable {w0 w w':World} {bx gn n:Nat} {F:Array Value} {v v':Value} {M:Nat → Bool} {T T':List Nat}
theorem LqSt.ne (s:LqSt w0 w bx gn n F v M T):some gn ≠ v.ownBlock∧some bx ≠ v.ownBlock:=by
 have h2:=s.lo
 exact ⟨fun e=>by have:=(s.que.block e.symm).1; omega,fun e=>by have:=(s.que.block e.symm).1; omega⟩
theorem LqSt.ext' (s:LqSt w0 w bx gn n F v M T) (x:Ext w w'):LqSt w0 w' bx gn n F v M T:=⟨s.ext.trans x,s.box.ext x,s.row.ext x,s.que.ext x,s.lo⟩
theorem LqSt.pushed (s:LqSt w0 w bx gn n F v M T) (q:IQue w' (gn + 1) v' T') (g:w.grownBy w' v.ownBlock):LqSt w0 w' bx gn n F v' M T' :=
 ⟨s.ext.grown g fun k e=>by have:=(s.que.block e).1; have:=s.lo; omega,(g.block bx s.box.lt s.ne.2).trans s.box,s.row.grown g s.ne.1,q,s.lo⟩
theorem LqSt.pop (s:LqSt w0 w bx gn n F v M T) (q:IQue w (gn + 1) v' T'):LqSt w0 w bx gn n F v' M T':=⟨s.ext,s.box,s.row,q,s.lo⟩
theorem LqSt.mark (s:LqSt w0 w bx gn n F v M T) (k:Nat):LqSt w0 (w.setCell ⟨gn,k,none⟩ (.bool true)) bx gn n F v (setS M k) T:=by
 have h2:=s.lo
 refine ⟨s.ext.setCell (by show _ ≤ gn; omega) _,s.box.far (by show bx ≠ gn; omega) _,s.row.set_ fun j hj=>?_,s.que.far (fun e=>s.ne.1 e.symm) _,s.lo⟩
 unfold setS
 by_cases e:j=k
 ·rw [if_pos e,if_pos e]
 ·rw [if_neg e,if_neg e]
end
theorem LqSt.fcells {w0 w:World} {bx gn n:Nat} {F:Array Value} {v:Value} {M:Nat → Bool} {T:List Nat} (s:LqSt w0 w bx gn n F v M T) {a0 a1 a2 a3 a4 a5 a6 a7 a8:Value} (h:F=#[a0,a1,a2,a3,a4,a5,a6,a7,a8]) :
  w.cell? ⟨bx,0,none⟩=some a0∧w.cell? ⟨bx,1,none⟩=some a1∧w.cell? ⟨bx,2,none⟩=some a2∧w.cell? ⟨bx,3,none⟩=some a3∧w.cell? ⟨bx,4,none⟩=some a4∧w.cell? ⟨bx,5,none⟩=some a5∧w.cell? ⟨bx,6,none⟩=some a6∧w.cell? ⟨bx,7,none⟩=some a7∧w.cell? ⟨bx,8,none⟩=some a8:=by
 have b:=s.box
 subst h
 exact ⟨b.cell 0,b.cell 1,b.cell 2,b.cell 3,b.cell 4,b.cell 5,b.cell 6,b.cell 7,b.cell 8⟩
theorem hlive_any (l:List Rf) (f:Rf) (p:Nat) (r:Int) (w:World) (g:GoodF l f) (hC:RgAt w f.A f.code) (hp:p < f.code.length) :
  Calls Tryz.prog 117 #[f.val,.int .i64 p,.int .i64 r] w fun e w'=>e=.returned (.bool (liveB f.code p r))∧Ext w w':=by
 obtain ⟨n,hn⟩:∃ n,n=f.code.length:=⟨_,rfl⟩
 have hfew:n ≤ 6000:=by have:=g.few; omega
 obtain ⟨b,off,hA,hb,_⟩:=hC.top (by omega)
 have HIN:Hid (∀ q,q < f.code.length → ∀ q2,q2 ∈ nextL (f.code.getD q default) q → q2 < f.code.length):=fun q hq q2 hq2=>g.next_in hq hq2
 have HNX:Hid (∀ (k:Nat) w1,k < f.code.length → Ext w w1 → Calls Tryz.prog 185 #[.agg #[.string f.name,.int .i64 f.params,.int .i64 f.regs,.int .i64 f.ty.base,.int .i64 f.ty.bits,.string f.ty.name,.bool f.ty.opt,.bool f.ty.err,.slice f.A n f.cap],.int .i64 k] w1 fun e w'=>∃ v,e=.returned v∧IQue w' w1.heap.size v (nextL (f.code.getD k default) k)∧Ext w1 w'):=fun k w1 hk x=>by
  have h:=hnext_any f k w1 (hC.ext x) hk g.few (fun h=>by
   have h3:(partsR (f.code.getD k default).op).1=3:=by
    unfold leadsR at h
    simp only [Bool.or_eq_true,beq_iff_eq] at h
    rcases h with h | h | h | h <;> rw [h] <;> rfl
   have gx:=(g.at_ (getD_mem hk)).d
   rw [h3] at gx
   exact (isPartB_place gx).1)
  unfold Rf.val at h
  rwa [← hn] at h
 unfold Rf.val
 rw [← hn]
 rw [hA] at hC HNX ⊢
 have HC:=Lib.hid hC
 have HN:=Lib.hid hn
 have HP:Hid (p < f.code.length):=hp
 obtain ⟨i1,hj0,hy0,hy1,hy2⟩:=info_parts info_int
 have JI:=Lib.hid hj0; have JZ0:=Lib.hid hy0; have JZ1:=Lib.hid hy1; have JZ2:=Lib.hid hy2
 have hmk:=fun W=>run_make_row' (P:=Tryz.prog) 135 4 (.bool false) 1 Tryz.underlying135 info_bool2 rfl .i64 .i64 n (by omega) (by omega) W
 clear hC hp hn hA hj0 hy0 hy1 hy2 g hb
 go_enter Tryz.func117,Tryz.ntmps117
 go_wp2_with (first
  | (go_at_call 185
     refine (HNX.out p _ HP.out exA).mono ?_
     rintro e w1 ⟨v1,rfl,q1,x1⟩
     have Q1:=Lib.hid q1
     have X1:=Lib.hid x1
     clear q1 x1))
 clear hmk
 obtain ⟨F,hF⟩:∃ F:Array Value,F=#[.string f.name,.int .i64 f.params,.int .i64 f.regs,.int .i64 f.ty.base,.int .i64 f.ty.bits,.string f.ty.name,.bool f.ty.opt,.bool f.ty.err,.slice (some ⟨b,off,none⟩) n f.cap]:=⟨_,rfl⟩
 have C0:Hid (LqSt w w1 w.heap.size (w.heap.size + 1) n F v1 (fun _=>false) (nextL (f.code.getD p default) p)):=by
  have b1:=((Blk.new w 59 F).alloc (.cells (madeCells #[.bool false] n) 4))
  have r1:=RowAt.made (w.alloc (.cells F 59)) 4 (.bool false) n
  rw [hF] at b1 r1 ⊢
  have e1:(w.alloc (.cells #[.string f.name,.int .i64 f.params,.int .i64 f.regs,.int .i64 f.ty.base,.int .i64 f.ty.bits,.string f.ty.name,.bool f.ty.opt,.bool f.ty.err,.slice (some ⟨b,off,none⟩) n f.cap] 59)).heap.size=w.heap.size + 1:=by simp
  rw [e1] at r1
  refine ⟨(((Ext.refl w).alloc _).alloc _).trans X1.out,b1.ext X1.out,r1.ext X1.out,?_,Nat.le_refl _,Nat.lt_succ_self _⟩
  have h:=Q1.out
  simpa using h
 have L0:Hid (LQ f.code r p (fun _=>false) (nextL (f.code.getD p default) p)):=LQ.begin_ (HIN.out p HP.out)
 have K0:Hid (qMs n (fun _=>false) (nextL (f.code.getD p default) p) ≤ 12002):=by
  have:=qMs_start f.code n (f.code.getD p default) p
  show _ ≤ _
  omega
 have HF8:Hid (F[8]?=some (.slice (some ⟨b,off,none⟩) n f.cap)):=by rw [hF]; rfl
 have HFF:=Lib.hid hF
 clear hF Q1 X1
 generalize nextL (f.code.getD p default) p=T0 at C0 L0 K0 ⊢
 generalize w.heap.size=bx at C0 ⊢
 generalize hgn:bx + 1=gn at C0 ⊢
 have HGN:=Lib.hid hgn
 clear hgn
 go_loopg [8] 12002 (fun k v wr=>∃ M T,LqSt w wr bx gn n F v M T∧LQ f.code r p M T∧qMs n M T ≤ k∧qMs n M T ≤ 12002)
 case atStart=>exact ⟨_,_,C0.out,L0.out,K0.out,K0.out⟩
 case round =>
  clear C0 L0 K0
  obtain ⟨M,T,st,lq,hkk,hms⟩:=hrel
  have ST:=Lib.hid st
  have BI:=Lib.hid lq
  cases T with
  | nil =>
   obtain ⟨aq,cq,hv⟩:=st.que.slice
   subst hv
   have HE:Hid (liveB f.code p r=false):=lq.end_
   clear st lq hkk hms BI
   simp only [List.length_nil]
   go_wp2_with fail
   go_ret
   exact ⟨ret_bool HE.out.symm,ST.out.ext⟩
  | cons k T =>
   obtain ⟨gq,oq,capq,a2,c2,hv,hbg,hg,q0,hsl,hq,hob⟩:=st.que.pop
   subst hv
   have hkl:=lq.inT k (List.mem_cons_self ..)
   have hk:k < n:=by have:=HN.out; omega
   have n0:=st.row.cell hk
   have f0:=st.row.frozen k
   have zn:=st.row.lt
   have HQ:=Lib.hid hq
   have HMS:=Lib.hid hms
   have hnT:T.length ≤ 12002:=by unfold qMs at hms; simp only [List.length_cons] at hms; omega
   have HKL:=Lib.hid hkl
   clear st lq hq hms hkl
   generalize hnT2:T.length=nT at *
   have HNT:=Lib.hid hnT2
   clear hnT2
   cases hm:M k with
   | true =>
    rw [hm] at n0
    have HM:=Lib.hid hm
    clear hm
    go_wp2_with fail
    have e2:=qMs_skip n M k T
    have e3:=HMS.out
    go_roundg (gk - 1)
    case measure=>omega
    case rel=>exact ⟨_,_,ST.out.pop HQ.out,BI.out.skip HM.out,by omega,by omega⟩
   | false =>
    rw [hm] at n0
    have HM:=Lib.hid hm
    clear hm
    obtain ⟨x,hx⟩:∃ x,x=f.code.getD k default:=⟨_,rfl⟩
    have S1:=Lib.hid ((ST.out.pop HQ.out).mark k)
    have c8:=S1.out.box.cell 8
    rw [HF8.out] at c8
    have zb:=S1.out.box.lt
    obtain ⟨hb1,d0,d1,d2,d3,d4,d5,d6,d7,d8,d9,d10⟩:=(HC.out.ext S1.out.ext).cells HKL.out hx
    have HX:=Lib.hid hx
    obtain ⟨rb,hrb⟩:∃ rb,readsB x r=rb:=⟨_,rfl⟩
    obtain ⟨wb,hwb⟩:∃ wb,wrB x r=wb:=⟨_,rfl⟩
    have HRB:=Lib.hid hrb
    have HWB:=Lib.hid hwb
    have HRD:Hid (∀ w1,Calls Tryz.prog 101 #[.agg #[.int .i64 x.op,.int .i64 x.d,.int .i64 x.a,.int .i64 x.b,.int .i64 x.ty.base,.int .i64 x.ty.bits,.string x.ty.name,.bool x.ty.opt,.bool x.ty.err,.string x.name,.slice x.A x.args.length x.cap],.int .i64 r] w1 fun e w'=>e=.returned (.bool rb)∧Ext w1 w'):=by
     intro w1
     rw [← hrb]
     obtain ⟨op,d,a,b',ty,nm,A,cap,args⟩:=x
     exact hreads_any op d a b' ty nm A cap args r w1
    have HWR:Hid (∀ w1,Calls Tryz.prog 186 #[.agg #[.int .i64 x.op,.int .i64 x.d,.int .i64 x.a,.int .i64 x.b,.int .i64 x.ty.base,.int .i64 x.ty.bits,.string x.ty.name,.bool x.ty.opt,.bool x.ty.err,.string x.name,.slice x.A x.args.length x.cap],.int .i64 r] w1 fun e w'=>e=.returned (.bool wb)∧Ext w1 w'):=by
     intro w1
     rw [← hwb]
     obtain ⟨op,d,a,b',ty,nm,A,cap,args⟩:=x
     exact hwr_any op d a b' ty nm A cap args r w1
    clear hx hrb hwb
    cases rb with
    | true =>
     go_wp2_with (first
      | (go_at_call 101
         refine (HRD.out _).mono ?_
         rintro e w2 ⟨rfl,x2⟩))
     go_ret
     refine ⟨ret_bool ?_,S1.out.ext.trans x2⟩
     rw [BI.out.hit (by rw [← HX.out]; exact HRB.out)]
    | false =>
     cases wb with
     | true =>
      go_wp2_with (first
       | (go_at_call 101
          refine (HRD.out _).mono ?_
          rintro e w2 ⟨rfl,x2⟩
          have S2:=Lib.hid (S1.out.ext' x2)
          have c82:=S2.out.box.cell 8
          rw [HF8.out] at c82
          have zb2:=S2.out.box.lt
          obtain ⟨hb2,p0,p1,p2,p3,p4,p5,p6,p7,p8,p9,p10⟩:=(HC.out.ext S2.out.ext).cells HKL.out HX.out
          clear x2)
       | (go_at_call 186
          refine (HWR.out _).mono ?_
          rintro e w3 ⟨rfl,x3⟩
          have S3:=Lib.hid (S2.out.ext' x3)
          clear x3))
      have e2:=qMs_mark (T:=T) (L:=[]) HM.out hk (by simp)
      have e3:=HMS.out
      have HL:Hid (LQ f.code r p (setS M k) (T ++ [])):=BI.out.mark (by rw [← HX.out]; exact HRB.out) (by rw [← HX.out,if_pos HWB.out]) (HIN.out k HKL.out)
      rw [List.append_nil] at e2 HL
      go_roundg (gk - 1)
      case measure=>omega
      case rel=>exact ⟨_,_,S3.out,HL.out,by omega,by omega⟩
     | false =>
      go_wp2_with (first
       | (go_at_call 101
          refine (HRD.out _).mono ?_
          rintro e w2 ⟨rfl,x2⟩
          have S2:=Lib.hid (S1.out.ext' x2)
          have c82:=S2.out.box.cell 8
          rw [HF8.out] at c82
          have zb2:=S2.out.box.lt
          obtain ⟨hb2,p0,p1,p2,p3,p4,p5,p6,p7,p8,p9,p10⟩:=(HC.out.ext S2.out.ext).cells HKL.out HX.out
          clear x2)
       | (go_at_call 186
          refine (HWR.out _).mono ?_
          rintro e w3 ⟨rfl,x3⟩
          have S3:=Lib.hid (S2.out.ext' x3)
          obtain ⟨y0,y1,y2,y3,y4,y5,y6,y7,y8⟩:=S3.out.fcells HFF.out
          have zb3:=S3.out.box.lt
          clear x3)
       | (go_at_call 185
          refine (HNX.out k _ HKL.out (by first | exact S3.out.ext | exact exA)).mono ?_
          rintro e w4 ⟨v4,rfl,q4,x4⟩
          obtain ⟨A4,c4,rfl,h4⟩:=q4.at_
          have H4:=Lib.hid h4
          have S4:=Lib.hid (S3.out.ext' x4)
          clear q4 x4 h4)
       | (at_builtin
          refine wpList_ipushes (ks:=nextL (f.code.getD k default) k) (l:=T) rfl _ _ 65 rfl i1 Tryz.underlying65 JI.out JZ0.out JZ1.out JZ2.out S4.out.que rfl (by have:=nextL_len (f.code.getD k default) k; have:=HNT.out; omega) A4 c4 rfl H4.out (by have:=S4.out.row.lt; omega) ?_
          intro v6 w6 q6 g6 _
          have S6:=Lib.hid (S4.out.pushed q6 g6)
          clear q6 g6))
      have e2:=qMs_mark (T:=T) HM.out hk (nextL_len (f.code.getD k default) k)
      have e3:=HMS.out
      have HL:Hid (LQ f.code r p (setS M k) (T ++ nextL (f.code.getD k default) k)):=BI.out.mark (by rw [← HX.out]; exact HRB.out) (by rw [← HX.out,if_neg (by rw [HWB.out]; decide)]) (HIN.out k HKL.out)
      go_roundg (gk - 1)
      case measure=>omega
      case rel=>exact ⟨_,_,S6.out,HL.out,by omega,by omega⟩
theorem hisDead_any (l:List Rf) (f:Rf) (p:Nat) (w:World) (g:GoodF l f) (hC:RgAt w f.A f.code) (hp:p < f.code.length) :
  Calls Tryz.prog 119 #[f.val,.int .i64 p] w fun e w'=>e=.returned (.bool (deadB f.code p))∧Ext w w':=by
 obtain ⟨nc,hn⟩:∃ nc,nc=f.code.length:=⟨_,rfl⟩
 have hfew:nc ≤ 6000:=by have:=g.few; omega
 obtain ⟨b,off,hA,hb,_⟩:=hC.top (by omega)
 obtain ⟨x,hx⟩:∃ x,x=f.code.getD p default:=⟨_,rfl⟩
 have HLV:Hid (∀ r w1,Ext w w1 → Calls Tryz.prog 117 #[.agg #[.string f.name,.int .i64 f.params,.int .i64 f.regs,.int .i64 f.ty.base,.int .i64 f.ty.bits,.string f.ty.name,.bool f.ty.opt,.bool f.ty.err,.slice f.A nc f.cap],.int .i64 p,.int .i64 r] w1 fun e w'=>e=.returned (.bool (liveB f.code p r))∧Ext w1 w'):=fun r w1 x=>by
  have h:=hlive_any l f p r w1 g (hC.ext x) hp
  unfold Rf.val at h
  rwa [← hn] at h
 have HDB:Hid (deadB f.code p=(idleB x.op && !liveB f.code p x.d)):=by unfold Hid; rw [deadB_eq,← hx]
 unfold Rf.val
 rw [← hn]
 rw [hA] at hC HLV ⊢
 obtain ⟨hb1,d0,d1,d2,d3,d4,d5,d6,d7,d8,d9,d10⟩:=hC.cells hp hx
 have hpn:p < nc:=by omega
 have HZ:Hid ((Tryz.prog.info? 67).map (·.size)=some 11):=by unfold Hid; kernel_rfl
 obtain ⟨lb,hlb⟩:∃ lb,liveB f.code p x.d=lb:=⟨_,rfl⟩
 have HL:Hid (∀ w1,Ext w w1 → Calls Tryz.prog 117 #[.agg #[.string f.name,.int .i64 f.params,.int .i64 f.regs,.int .i64 f.ty.base,.int .i64 f.ty.bits,.string f.ty.name,.bool f.ty.opt,.bool f.ty.err,.slice (some ⟨b,off,none⟩) nc f.cap],.int .i64 p,.int .i64 x.d] w1 fun e w'=>e=.returned (.bool lb)∧Ext w1 w'):=fun w1 xx=>by have h:=HLV.out x.d w1 xx; rwa [hlb] at h
 rw [hlb] at HDB
 rw [HDB.out]
 clear hC hp hn hx hA HLV hlb g hb HDB
 cases hid:idleB x.op with
 | true =>
  obtain ⟨t0,h0⟩:∃ t,(x.op == 0)=t:=⟨_,rfl⟩
  obtain ⟨t1,h1⟩:∃ t,(x.op == 1)=t:=⟨_,rfl⟩
  obtain ⟨t2,h2⟩:∃ t,(x.op == 2)=t:=⟨_,rfl⟩
  obtain ⟨t3,h3⟩:∃ t,(x.op == 3)=t:=⟨_,rfl⟩
  obtain ⟨t6,h6⟩:∃ t,(x.op == 6)=t:=⟨_,rfl⟩
  obtain ⟨t16,h16⟩:∃ t,(x.op == 16)=t:=⟨_,rfl⟩
  unfold idleB at hid
  rw [h0,h1,h2,h3,h6,h16] at hid
  cases t0
  case' false=>cases t1
  case' false.false=>cases t2
  case' false.false.false=>cases t3
  case' false.false.false.false=>cases t6
  case' false.false.false.false.false=>cases t16
  case false.false.false.false.false.false=>cases hid
  all_goals
   clear hid
   go_enter Tryz.func119,Tryz.ntmps119
   go_wp2_with (first
    | (go_at_call 117; (with_reducible refine (HL.out _ exA).mono ?_); rintro e w5 ⟨rfl,x5⟩))
   go_ret
   exact ⟨ret_bool (by first | rfl | simp),exA⟩
 | false =>
  unfold idleB at hid
  simp only [Bool.or_eq_false_iff] at hid
  obtain ⟨h0,h1,h2,h3,h6,h16⟩:=hid
  go_enter Tryz.func119,Tryz.ntmps119
  go_wp2_with fail
  go_ret
  exact ⟨rfl,exA⟩
end Go.Proofs.YtknaemlnhediaaaGreatDoor.c
