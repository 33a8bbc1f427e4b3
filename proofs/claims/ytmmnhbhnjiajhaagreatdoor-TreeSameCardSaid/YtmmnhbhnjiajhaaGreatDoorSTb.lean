/- Expressions of a level. Conditions: what is read beneath it is as the grammar says. -/
import Derived.Test.YtmmnhbhnjiajhaaGreatDoorSMapT
import Derived.Test.YtmmnhbhnjiajhaaGreatDoorSTw
import Derived.Test.YtmmnhbhnjiajhaaGreatDoorSTa
namespace Go.Proofs.YtmmnhbhnjiajhaaGreatDoor.c
open Go.RowKit
set_option linter.unusedVariables false
set_option maxRecDepth 100000
set_option maxHeartbeats 3200000
set_option linter.unusedSimpArgs false
theorem rg_begin {P:Program} {ops:Array Oper} {Q:Exit → Act → World → Prop} {a:Act} {w:World} {id:Nat} (l0:Array Bool) (hl:Array.replicate ops.size false=l0) (hm:P.follows .mixedOrders=true) (hQ:Calm Q) (h:Calm Q → wpAny P .any ops Q ops.size l0 a w.drew):(Code.region id ops true).wp P Q a w:=by
 subst hl
 exact wp_region_any hm (h hQ)
theorem LvAt.px {C:Cx} {a k:Nat} {w w':World} {A:Option Addr} (h:LvAt w A k) (p:PS C a w) (x:Px C.m w w'):LvAt w' A k:=by
 refine h.le (fun b hb hc=>x.block b hb ?_) x.size
 rintro rfl
 rcases hc with ⟨o,g,hv⟩ | ⟨es,cl,he⟩
 ·rw [p.blk.cell] at hv
  match o,hv with
  | 0,hv | 1,hv=>cases hv
  | o + 2,hv=>cases hv
 ·rw [p.blk] at he
  cases he
theorem wpList_slc {ops:Array Oper} {rest:List Oper} {o:Oper} {a:Act} {Q:Exit → Act → World → Prop} {w:World} (hgd:o.guard=none) (T:TypeId) (x lo:Operand) (ho:o.op=.slice T x (some lo) none none) (v r:Value) (hx:a.eval x=v) (hl:a.eval lo=.int .i64 1)
  (hr:(Instr.sliceAt T v (some (.int .i64 1)) none none).run Tryz.prog w=.ok r w) (h:wpList Tryz.prog ops Q rest (a.put o.dst r) w):wpList Tryz.prog ops Q (o :: rest) a w:=by
 refine wpList_plain hgd fun K hK=>?_
 unfold Oper.wp
 simp [execOp,ho,hx,hl,hr,Result.andThen]
 exact hK _ _ h
theorem exec_slc {o:Oper} {a:Act} {w:World} {T:TypeId} {x lo:Operand} (ho:o.op=.slice T x (some lo) none none) {v r:Value} (hx:a.eval x=v) (hl:a.eval lo=.int .i64 1) (hr:(Instr.sliceAt T v (some (.int .i64 1)) none none).run Tryz.prog w=.ok r w):(execOp a.eval o).run Tryz.prog w=.ok (.value r) w:=by
 simp [execOp,ho,hx,hl,hr,Result.andThen]
theorem run_slc (w:World) (b o n cap:Nat) (hn:1 ≤ n) (hc:n ≤ cap):(Instr.sliceAt 217 (.slice (some ⟨b,o,none⟩) n cap) (some (.int .i64 1)) none none).run Tryz.prog w=.ok (.slice (if cap=1 then some ⟨b,o,none⟩ else some ⟨b,o + 1,none⟩) (n - 1) (cap - 1)) w:=by
 go_simp
 intro h
 omega
theorem zero_int (w:World):(zeroValue 3).run Tryz.prog w=.ok (.int .i64 0) w:=by kernel_rfl
theorem run_lv {w:World} {g k:Nat} (h:MapAt w 9 g 6 (strV (opsT.getD k []))) (s:ByteArray) (hs:s.size ≤ 4000):(Instr.lookup 255 (.map (some g)) (.string s) true).run Tryz.prog w=.ok (.tuple #[.int .i64 ((opS k s).getD 0),.bool (opS k s).isSome]) w:=by
 rw [h.look keyed_str Tryz.underlying255 zero_int (key_str hs) true,if_pos rfl]
 rw [show strV (opsT.getD k []) (.string s)=((opsT.getD k []).find? fun p=>decide (p.1=s)).map fun p=>.int .i64 p.2 from rfl]
 unfold opS
 cases (opsT.getD k []).find? fun p=>decide (p.1=s) <;> rfl
theorem op_none (k:Nat):opS k ⟨#[]⟩=none:=by
 match k with
 | 0 | 1 | 2 | 3 | 4 | 5 | 6=>rfl
 | k + 7=>rfl
structure BiSt (C:Cx) (w:World) (z b:Nat) (y:Nd) (cy:Array Value) (wr:World):Prop where
 mv:Mv C w b wr
 res:Blk wr w.heap.size 36 zEx
 box:Blk wr z 36 cy
 nv:Nv (vp (fun i=>w.heap.size < i∧i ≠ z) wr) 0 y cy
theorem BiSt.to {C:Cx} {w wr w2:World} {z b c:Nat} {y:Nd} {cy:Array Value} (h:BiSt C w z b y cy wr) (k:Mv C wr c w2) (hm:C.m < w.heap.size) (hz:w.heap.size < z):BiSt C w z c y cy w2 :=
 ⟨h.mv.trans k,h.res.px k.px (by omega),h.box.px k.px (by omega),h.nv.px k.px fun i ⟨h1,h2⟩ _=>⟨by omega,h1,h2⟩⟩
theorem BiSt.put {C:Cx} {w w2:World} {z b:Nat} {x y:Nd} {cy ds:Array Value} (h:BiSt C w z b y cy w2) (hx:Nv (vp (fun i=>w.heap.size < i∧i ≠ z) w2) 0 x ds) (op:Int) (hm:C.m < w.heap.size) (hz:w.heap.size < z) :
  BiSt C w z b (exN op (y.app x)) (exC op (.slice (some ⟨w2.heap.size,0,none⟩) 2 2)) ((w2.alloc (.cells (cy ++ ds) 36)).setRow z (exC op (.slice (some ⟨w2.heap.size,0,none⟩) 2 2))):=by
 have hb:=h.box.lt
 have x1:Ext w2 (w2.alloc (.cells (cy ++ ds) 36)):=(Ext.refl _).alloc _
 refine ⟨(h.mv.to x1).row (by omega) hm _,(setRow_other _ _ _ _ (by omega)).trans (h.res.alloc _),(h.box.alloc _).row _,?_⟩
 exact nv_ex ((Nv.sl2 (h.nv.ext x1 fun i hi _=>hi) (hx.ext x1 fun i hi _=>hi) (Blk.new _ _ _) ⟨by omega,by omega⟩).row _ fun i hi _=>⟨hi.2,hi⟩)
section
variable {C:Cx} {a k cap:Nat} {w:World} {A:Option Addr}
theorem binary_any (h:PS C a w) (hk:k ≤ 7) (hL:LvAt w A k) (hcap:7 - k ≤ cap) {n:Nat} (hn:n=7 - k)
  (HU0:k=7 → ∀ w1,PS C a w1 → Calls Tryz.prog 215 #[Pp C] w1 (Out C w1 0 (gram C.L .un a)))
  (HB0:∀ b w1 A1 c1 n1,n1=7 - (k + 1) → k < 7 → a ≤ b → PS C b w1 → LvAt w1 A1 (k + 1) → n1 ≤ c1 → Calls Tryz.prog 171 #[Pp C,.slice A1 n1 c1] w1 (Out C w1 0 (gram C.L (.lvl (k + 1)) b))) :
  Calls Tryz.prog 171 #[Pp C,.slice A n cap] w (Out C w 0 (gram C.L (.lvl k) a)):=by
 have HZ:Hid ((Tryz.prog.info? 36).map (·.size)=some 10):=by unfold Hid; kernel_rfl
 have hlt:=h.lt
 have HP:=Lib.hid h
 have HU:=Lib.hid HU0
 have HB:=Lib.hid HB0
 have HL:=Lib.hid hL
 have x0:Ext w (w.alloc (.cells zEx 36)):=exA
 clear h hL HU0 HB0
 by_cases h7:k=7
 ·obtain rfl:n=0:=by omega
  have e1:gram C.L (.lvl k) a=gram C.L .un a:=by rw [gram_eq]; simp only [stepG,if_pos h7]
  rw [e1]
  have HU1:=Lib.hid (HU.out h7 _ (HP.out.to x0))
  clear HB HU e1 h7 hn hk hcap
  go_enter Tryz.func171,Tryz.ntmps171
  go_wp2_with (first
   | (go_at_call 215; refine HU1.out.mono ?_; clear HU1; rintro r w2 (⟨x,b,cs,hg,rfl,hnv,hmv⟩ | ⟨b,hg,rfl,hmv⟩) <;> (have h2:=(HP.out.mv x0).trans hmv))
   | ((with_reducible show wpList _ _ _ (Oper.mk none (.store 36 (.tmp 4) _) _ _ _ _ :: _) _ _); refine wpList_store_row rfl _ _ _ rfl _ rfl _ zEx _ ((Blk.new w _ zEx).px hmv.px (by omega)) rfl hnv.size hnv.one (by rw [show cs.size=10 from hnv.size]; exact HZ.out) ?_))
  ·refine bodyPost_ret (results_cell_row rfl _ _ w.heap.size _ cs (0,0) _ rfl (((Blk.new w _ zEx).px hmv.px (by omega)).row _) Tryz.underlying36 rfl (by rw [show cs.size=10 from hnv.size]; exact HZ.out)) rfl ?_
   exact fin_row h2 (Nat.le_refl _) hlt hnv (fun i hi _=>by simp at hi; omega) hg.out
  ·exact ⟨rfl,fin_bad h2 hg.out⟩
 ·obtain ⟨lb,lo,rfl,hlb,hlc⟩:=HL.out (by omega)
  have e1:gram C.L (.lvl k) a=thn (gram C.L (.lvl (k + 1)) a) fun x b=>gram C.L (.ops k false x) b:=by rw [gram_eq]; simp only [stepG,if_neg h7]
  have E1:=Lib.hid e1
  have hL1:LvAt w (if cap=1 then some ⟨lb,lo,none⟩ else some ⟨lb,lo + 1,none⟩) (k + 1):=fun hk7=>by
   rw [if_neg (by omega)]
   refine ⟨lb,lo + 1,rfl,hlb,fun i hi=>?_⟩
   obtain ⟨g,h1,h2⟩:=hlc (i + 1) (by omega)
   exact ⟨g,by rw [← h1]; congr 2; omega,by rw [show k + 1 + i=k + (i + 1) by omega]; exact h2⟩
  have hsl:∀ w',(Instr.sliceAt 217 (.slice (some ⟨lb,lo,none⟩) n cap) (some (.int .i64 1)) none none).run Tryz.prog w'=.ok (.slice (if cap=1 then some ⟨lb,lo,none⟩ else some ⟨lb,lo + 1,none⟩) (n - 1) (cap - 1)) w':=fun w'=>run_slc w' lb lo n cap (by omega) (by omega)
  generalize (if cap=1 then some (⟨lb,lo,none⟩:Addr) else some ⟨lb,lo + 1,none⟩)=A1 at hL1 hsl
  have HSL:=Lib.hid hsl
  have HL1:=Lib.hid hL1
  have HB1:=Lib.hid (HB.out a _ _ (cap - 1) (n - 1) (by omega) (by omega) (Nat.le_refl _) (HP.out.to x0) (hL1.ext x0) (by omega))
  have hnp:¬ (n:Int)=0:=by omega
  have hn0:(0:Int) < (n:Int):=by omega
  have hnN:0 < n:=by omega
  have hnZ:n ≠ 0:=by omega
  have hn1c:1 ≤ n:=by omega
  have hnc:n ≤ cap:=by omega
  have HN:=Lib.hid hn
  clear e1 hL1 HU hlc hn hsl
  go_enter Tryz.func171,Tryz.ntmps171
  go_wp2_with (first
   | (go_at_call 171; refine HB1.out.mono ?_; clear HB1; rintro r w2 (⟨x,b,cs,hg,rfl,hnv,hmv⟩ | ⟨b,hg,rfl,hmv⟩) <;> (have h2:=(HP.out.mv x0).trans hmv))
   | ((with_reducible show wpList _ _ _ (Oper.mk (some 15) (.slice _ _ _ _ _) _ _ _ _ :: _) _ _); refine wpList_slc rfl _ _ _ rfl _ _ rfl rfl (HSL.out _) ?_)
   | ((with_reducible show wpList _ _ _ (Oper.mk none (.store 36 (.tmp 5) (.tmp 16)) _ _ _ _ :: _) _ _); refine wpList_store_row rfl _ _ _ rfl _ rfl _ zEx _ (Blk.new w2 _ zEx) rfl hnv.size hnv.one (by rw [show cs.size=10 from hnv.size]; exact HZ.out) ?_))
  ·have B0:Hid (BiSt C w w2.heap.size b x cs ((w2.alloc (.cells zEx 36)).setRow w2.heap.size cs)):=by
    have h3:=h2.to ((Ext.refl w2).alloc (.cells zEx 36))
    have hs2:=hmv.px.size
    simp only [World.size_alloc] at hs2
    have hn3:=hnv.ext ((Ext.refl w2).alloc (.cells zEx 36)) (q:=fun i=>w.heap.size < i∧i ≠ w2.heap.size) (fun i hi hj=>by simp only [World.size_alloc] at hi; omega)
    exact ⟨h3.row (by omega) hlt _,(setRow_other _ _ _ _ (by omega)).trans (((Blk.new w _ zEx).px hmv.px (by omega)).alloc _),(Blk.new w2 _ zEx).row _,hn3.row _ fun i hi _=>⟨hi.2,hi⟩⟩
   have hz:w.heap.size < w2.heap.size:=by have:=hmv.px.size; simp at this; omega
   have E2:Hid (gram C.L (.lvl k) a=gram C.L (.ops k false x) b):=E1.out.trans (by rw [hg.out]; rfl)
   have hab:a ≤ b:=gram_le _ _ _ _ hg.out
   clear hnv hmv h2 E1 hg
   simp only [Act.put]
   go_loopg [] (C.L.length + 1 - b) (fun n wr=>∃ y b2 cy turn,gram C.L (.lvl k) a=gram C.L (.ops k turn y) b2∧(k=3 → turn=false)∧b ≤ b2∧C.L.length + 1 - b2 ≤ n∧BiSt C w w2.heap.size b2 y cy wr)
   case atStart=>exact ⟨x,b,cs,false,E2.out,fun _=>rfl,Nat.le_refl _,Nat.le_refl _,B0.out⟩
   case round =>
    clear B0 E2
    obtain ⟨y,b2,cy,turn,hg,hturn,hbb,hn,hp⟩:=hrel
    have HG:=Lib.hid hg
    have HT:=Lib.hid hturn
    have P1:=Lib.hid hp
    have hle:=hp.mv.ps.le
    have hs:cy.size=10:=hp.nv.size
    have hzz:=hp.box.lt
    obtain ⟨lb',lo',e9,hlb2,hlc2⟩:=(HL.out.px HP.out hp.mv.px) (by omega)
    obtain ⟨rfl,rfl⟩:lb=lb'∧lo=lo':=by cases e9; exact ⟨rfl,rfl⟩
    obtain ⟨g,hgc,hgm⟩:=hlc2 0 (by omega)
    rw [Nat.add_zero] at hgc hgm
    have HGM:=Lib.hid hgm
    have HGC:=Lib.hid hgc
    obtain ⟨ov,hov⟩:∃ ov,opS k (tx C.L b2)=ov:=⟨_,rfl⟩
    have HOV:=Lib.hid hov
    clear hg hp hturn e9 hlc2 hgm hov
    go_wp2_with fail
    go_region_held3 (fun w'=>w'.cell? ⟨lb,lo,none⟩=some (.map (some g))) (first | assumption | go_keep) (first
     | (go_at_call 119; refine (peek_any (w:=wr.drew) (P1.out.mv.ps.to (Ext.refl wr).drew)).mono ?_; rintro r w4 ⟨rfl,x4⟩; have c4:w4.cell? ⟨lb,lo,none⟩=some (.map (some g)):=(x4.cell (p:=⟨lb,lo,none⟩) hlb2).trans HGC.out; have hrun:=run_lv (w:=w4) (HGM.out.ext ((Ext.refl wr).drew.trans x4)) (tx C.L b2) PS.tx_size; rw [HOV.out] at hrun))
    have P2:=Lib.hid (P1.out.to (P1.out.mv.ps.mv ((Ext.refl wr).drew.trans x4)) hlt hz)
    clear c4 hrun hgc
    cases ov
    ·have e2:gram C.L (.ops k turn y) b2=some (.ok y b2):=by rw [gram_eq]; simp only [stepG,HOV.out,true_or,if_true]
     go_wp2_with (first
      | ((with_reducible show wpList _ _ _ (Oper.mk (some 30) (.load 36 (.tmp 5)) _ _ _ _ :: _) _ _); refine wpList_ldb rfl _ _ rfl _ _ cy rfl P2.out.box _ Tryz.underlying36 rfl (by rw [hs]; exact HZ.out) ?_)
      | ((with_reducible show wpList _ _ _ (Oper.mk none (.store 36 (.tmp 4) _) _ _ _ _ :: _) _ _); refine wpList_store_row rfl _ _ _ rfl _ rfl _ zEx _ P2.out.res rfl hs P2.out.nv.one (by rw [hs]; exact HZ.out) ?_))
     refine bodyPost_ret (results_cell_row rfl _ _ w.heap.size _ cy (0,0) _ rfl (P2.out.res.row _) Tryz.underlying36 rfl (by rw [hs]; exact HZ.out)) rfl ?_
     exact fin_row P2.out.mv (Nat.le_refl _) hlt P2.out.nv (fun i hi _=>by omega) (HG.out.trans e2)
    ·rename_i op
     have hb2:b2 < C.L.length:=by
      rcases Nat.lt_or_ge b2 C.L.length with h1 | h1
      ·exact h1
      ·have:=HOV.out
       rw [tx_end h1,op_none] at this
       cases this
     obtain ⟨hm4,c0,c1,hf4⟩:=P2.out.mv.ps.facts
     have hlen:=C.len
     have hww:IntKind.i64.wrap ((b2:Int) + 1)=(b2:Int) + 1:=IntWalk.i64_in _ (by omega)
     have P3:=Lib.hid (P2.out.to (P2.out.mv.ps.step hb2) hlt hz)
     go_wp2_with fail
     obtain ⟨w5,hw5⟩:∃ w5,w4.setCell ⟨C.m,1,none⟩ (.int .i64 ((b2:Int) + 1))=w5:=⟨_,rfl⟩
     rw [hw5] at P3 ⊢
     clear hw5 hm4 c0 c1 hf4 hww P2 P1 HGM HGC x4
     have P4:=Lib.hid (P3.out.mv.ps.to (Ext.refl w5).drew)
     have HL4:=Lib.hid ((HL1.out.px HP.out P3.out.mv.px).ext (Ext.refl w5).drew)
     have HBB:=Lib.hid (HB.out (b2 + 1) w5.drew A1 (cap - 1) (n - 1) (by have:=HN.out; omega) (by omega) (by omega) P4.out HL4.out (by omega))
     have HR:Hid (∀ r,gram C.L (.lvl (k + 1)) (b2 + 1)=r → gram C.L (.ops k turn y) b2=if k=3∧turn=true then some (.ok y b2) else thn r fun y2 b3=>gram C.L (.ops k true (exN op (y.app y2))) b3):=fun r hr=>by
      rw [gram_eq]
      simp only [stepG,HOV.out,hr,reduceCtorEq,false_or,Option.getD_some]
     have hnt:¬ (k=3∧turn=true):=fun h=>by have:=HT.out h.1; rw [this] at h; cases h.2
     refine rg_begin #[false,false,false,false,false,false,false,false,false] rfl (by kernel_rfl) (fun _ _ _ _ _ h=>h) (fun HQ=>?_)
     (refine ta 0 40 rfl HQ ?_; try simp only [putL,List.set])
     (refine ta 2 42 rfl HQ ?_; try simp only [putL,List.set])
     (refine ta 3 43 rfl HQ ?_; try simp only [putL,List.set])
     (refine ta 4 44 rfl HQ ?_ (hv:=fun w'=>exec_slc rfl rfl rfl (HSL.out w')); try simp only [putL,List.set])
     refine th 1 41 1 [5,6,7,8] [⟨some 45,_,_,_,_,_⟩,⟨some 46,_,_,_,_,_⟩,⟨some 47,_,_,_,_,_⟩,⟨none,_,_,_,_,_⟩] (fun w'=>Blk w' w2.heap.size 36 cy) rfl rfl rfl HQ P3.out.box (fun w' hB=>exec_ldb rfl rfl hB Tryz.underlying36 rfl (by rw [hs]; exact HZ.out)) ?_
     simp only [putL,List.set]
     refine ly_call rfl (by go_simp) HBB.out ?_ ?_ ?_
     ·rintro v w6 (⟨y2,b3,ds,hg2,e,hnv2,hmv2⟩ | ⟨b3,hg2,e,hmv2⟩)
      ·cases e
       have P6:=Lib.hid (P3.out.to ((P3.out.mv.ps.mv (Ext.refl w5).drew).trans hmv2) hlt hz)
       refine ⟨P6.out.box,?_⟩
       have hz6:w5.heap.size ≤ w6.heap.size:=hmv2.px.size
       have hz5:w2.heap.size < w5.heap.size:=P3.out.box.lt
       have hds:ds.size=10:=hnv2.size
       have P7:=Lib.hid (P6.out.put (hnv2.mono (vp_le (q:=fun i=>w.heap.size < i∧i ≠ w2.heap.size) fun i hi _=>⟨by have hi:w5.heap.size ≤ i:=hi; omega,rfl⟩)) op hlt hz)
       have hb3:b2 + 1 ≤ b3:=gram_le _ _ _ _ hg2.out
       have E3:=Lib.hid (HG.out.trans ((HR.out _ hg2.out).trans (if_neg hnt)))
       show wpList _ _ _ _ _ _
       simp only [putL,List.set]
       refine wpList_plain rfl fun K1 h1=>wp_bsE2 _ _ rfl cy ds rfl rfl hs hds (h1 _ _ ?_)
       simp only [putL,List.set]
       refine wpList_bld rfl _ _ rfl [(0,.int .i64 op),(4,.slice (some ⟨w6.heap.size,0,none⟩) 2 2)] (by simp only [List.map_toArray,List.map_cons,List.map_nil]; rfl) (built_ex op _ _ _) ?_
       refine wpList_store_row rfl _ _ _ rfl w2.heap.size rfl _ cy _ (P6.out.box.alloc _) rfl (by rw [hs]; rfl) (exC_one _ _ _ _) HZ.out ?_
       clear h1 K1 hnv2 hmv2 hg2 P6 HR HBB P4 HL4
       generalize (w6.alloc (.cells (cy ++ ds) 36)).setRow w2.heap.size (exC op (.slice (some ⟨w6.heap.size,0,none⟩) 2 2))=w7 at P7 ⊢
       generalize exC op (.slice (some ⟨w6.heap.size,0,none⟩) 2 2)=c7 at P7 ⊢
       have hs7:c7.size=10:=P7.out.nv.size
       have hw7:=P7.out.box.lt
       by_cases h3:k=3
       ·have hn4:(n:Int)=4:=by have:=HN.out; omega
        have e4:gram C.L (.ops k true (exN op (y.app y2))) b3=some (.ok (exN op (y.app y2)) b3):=by rw [gram_eq]; simp only [stepG,h3,true_and,or_true,if_true]
        go_wp2_with (first
         | (go_at_call 172; refine (levels_any _).mono ?_; rintro r w8 ⟨A8,rfl,_,x8⟩; have P8:=Lib.hid (P7.out.to (P7.out.mv.ps.mv x8) hlt hz))
         | ((with_reducible show wpList _ _ _ (Oper.mk (some 54) (.load 36 (.tmp 5)) _ _ _ _ :: _) _ _); refine wpList_ldb rfl _ _ rfl _ _ c7 rfl P8.out.box _ Tryz.underlying36 rfl (by rw [hs7]; exact HZ.out) ?_)
         | ((with_reducible show wpList _ _ _ (Oper.mk none (.store 36 (.tmp 4) _) _ _ _ _ :: _) _ _); refine wpList_store_row rfl _ _ _ rfl _ rfl _ zEx _ P8.out.res rfl hs7 P8.out.nv.one (by rw [hs7]; exact HZ.out) ?_))
        refine bodyPost_ret (results_cell_row rfl _ _ w.heap.size _ c7 (0,0) _ rfl (P8.out.res.row _) Tryz.underlying36 rfl (by rw [hs7]; exact HZ.out)) rfl ?_
        exact fin_row P8.out.mv (Nat.le_refl _) hlt P8.out.nv (fun i hi _=>by omega) (E3.out.trans e4)
       ·have hn4:¬ (n:Int)=4:=by have:=HN.out; omega
        go_wp2_with (first
         | (go_at_call 172; refine (levels_any _).mono ?_; rintro r w8 ⟨A8,rfl,_,x8⟩; have P8:=Lib.hid (P7.out.to (P7.out.mv.ps.mv x8) hlt hz)))
        go_roundg (gk - 1)
        case measure=>omega
        case rel=>exact ⟨_,b3,c7,true,E3.out,fun h=>absurd h h3,by omega,by omega,P8.out⟩
      ·cases e
     ·rintro c w6 (⟨y2,b3,ds,hg2,e,hnv2,hmv2⟩ | ⟨b3,hg2,e,hmv2⟩)
      ·cases e
      ·cases e
       exact ⟨rfl,fin_bad ((P3.out.mv.to (Ext.refl w5).drew).trans hmv2) (HG.out.trans ((HR.out _ hg2.out).trans (by rw [if_neg hnt]; rfl)))⟩
     ·rintro w6 (⟨y2,b3,ds,hg2,e,hnv2,hmv2⟩ | ⟨b3,hg2,e,hmv2⟩) <;> cases e
  ·exact ⟨rfl,fin_bad h2 (E1.out.trans (by rw [hg.out]; rfl))⟩
end
end Go.Proofs.YtmmnhbhnjiajhaaGreatDoor.c
