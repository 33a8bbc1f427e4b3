/- A return. A loop over numbers. -/
import Derived.Test.YtmmnhbhnjiajhaaGreatDoorSUc
import Derived.Test.YtmmnhbhnjiajhaaGreatDoorSTh
namespace Go.Proofs.YtmmnhbhnjiajhaaGreatDoor.c
open Go.RowKit
set_option linter.unusedVariables false
set_option maxRecDepth 100000
set_option maxHeartbeats 3200000
set_option linter.unusedSimpArgs false
theorem Rx.fin {C:Cx} {w w2:World} {t:TypeId} {zv ds:Array Value} {b k:Nat} {p:Nat → Prop} {x:Nd} {r:Option Rs} (R:Rx C w t zv b w2) (hm:C.m < w.heap.size) (hn:Nv (vp p w2) k x ds) (hp:∀ i,p i → w.heap.size < i) (hr:r=some (.ok x b)):Out C w k r (.returned (.agg ds)) (w2.setRow w.heap.size ds):=fin_emp R hm hn hp hr
theorem nv_st0 {V:Vw} {op:Int} {nm:ByteArray} {ty:Ty}:Nv V 1 (stN op nm ty .nil .nil .nil) (stC op nm ty sl0 sl0 sl0):=nv_st (Sl.nil V none 0 0) (Sl.nil V none 0 2) (Sl.nil V none 0 3)
theorem ret_any {C:Cx} {a:Nat} {w:World} (h:PS C a w) (hw:tx C.L a=⟨#[114,101,116,117,114,110]⟩) (HE0:∀ b,a < b → EX C b):Calls Tryz.prog 218 #[Pp C] w (Out C w 1 (retS C.L (gram C.L) (a + 1))):=by
 have HZ:Hid ((Tryz.prog.info? 44).map (·.size)=some 10):=by unfold Hid; kernel_rfl
 have hlt:=h.lt
 have R0:Hid (Rx C w 44 zSt a (w.alloc (.cells zSt 44))):=Rx.init h _ _
 have HE:=Lib.hid HE0
 clear h HE0
 by_cases h1:tx C.L (a + 1)=⟨#[59]⟩
 ·go_enter Tryz.func218,Tryz.ntmps218
  go_wp2_with (first
   | (go_at_call 115; refine (want_any R0.out.ps ⟨#[114,101,116,117,114,110]⟩ (by decide)).mono ?_; rintro r w1 (⟨_,rfl,m1⟩ | ⟨hq,rfl,m1⟩); rotate_left; exact absurd hw hq; have R1:=Lib.hid (R0.out.to m1 hlt))
   | (go_at_call 113; refine (next_any R1.out.ps ⟨#[59]⟩ (by decide)).mono ?_; rintro r w2 (⟨_,rfl,m2⟩ | ⟨hq,rfl,m2⟩); rotate_left; exact absurd h1 hq; have R2:=Lib.hid (R1.out.to m2 hlt))
   | ((with_reducible show wpList _ _ _ (Oper.mk none (.store 44 (.tmp 2) _) _ _ _ _ :: _) _ _); refine wpList_store_row rfl _ _ _ rfl _ rfl _ zSt _ R2.out.res rfl rfl (stC_sl0 4 ⟨#[]⟩ tZ) HZ.out ?_))
  refine bodyPost_ret (results_cell_row rfl _ _ w.heap.size _ (stC 4 ⟨#[]⟩ tZ sl0 sl0 sl0) (0,0) _ rfl (R2.out.res.row _) Tryz.underlying44 rfl HZ.out) rfl ?_
  exact R2.out.fin hlt (nv_st0 (V:=vp (w.heap.size < ·) w2)) (fun i hi=>hi) (by unfold retS; rw [if_pos h1])
 ·by_cases h2:tx C.L (a + 1)=⟨#[101,114,114,111,114]⟩
  ·by_cases h3:tx C.L (a + 2)=⟨#[46]⟩
   ·by_cases h4:isW C.L (a + 3)=true
    ·have e2:Hid (retS C.L (gram C.L) (a + 1)=wnt C.L (a + 4) ⟨#[59]⟩ (some (.ok (stN 5 (tx C.L (a + 3)) tZ .nil .nil .nil) (a + 5)))):=by
      unfold Hid retS wnt nam; rw [if_neg h1,if_pos h2,if_pos h3,if_pos h4]
     go_enter Tryz.func218,Tryz.ntmps218
     go_wp2_with (first
      | (go_at_call 115; (with_reducible show Calls _ _ #[_,.string ⟨#[114,101,116,117,114,110]⟩] _ _); refine (want_any R0.out.ps ⟨#[114,101,116,117,114,110]⟩ (by decide)).mono ?_; rintro r w1 (⟨_,rfl,m1⟩ | ⟨hq,rfl,m1⟩); rotate_left; exact absurd hw hq; have R1:=Lib.hid (R0.out.to m1 hlt))
      | (go_at_call 113; (with_reducible show Calls _ _ #[_,.string ⟨#[59]⟩] _ _); refine (next_any R1.out.ps ⟨#[59]⟩ (by decide)).mono ?_; rintro r w2 (⟨hq,rfl,m2⟩ | ⟨_,rfl,m2⟩); exact absurd hq h1; have R2:=Lib.hid (R1.out.to m2 hlt))
      | (go_at_call 113; refine (next_any R2.out.ps ⟨#[101,114,114,111,114]⟩ (by decide)).mono ?_; rintro r w3 (⟨_,rfl,m3⟩ | ⟨hq,rfl,m3⟩); rotate_left; exact absurd h2 hq; have R3:=Lib.hid (R2.out.to m3 hlt))
      | (go_at_call 115; (with_reducible show Calls _ _ #[_,.string ⟨#[46]⟩] _ _); refine (want_any R3.out.ps ⟨#[46]⟩ (by decide)).mono ?_; rintro r w4 (⟨_,rfl,m4⟩ | ⟨hq,rfl,m4⟩); rotate_left; exact absurd h3 hq; have R4:=Lib.hid (R3.out.to m4 hlt))
      | (go_at_call 114; refine (name_any R4.out.ps).mono ?_; rintro r w5 (⟨_,rfl,m5⟩ | ⟨hq,rfl,m5⟩); rotate_left; rw [h4] at hq; cases hq; have R5:=Lib.hid (R4.out.to m5 hlt)
         have R6:=Lib.hid (R5.out.ext ((Ext.refl w5).alloc (.cells (stC 5 (tx C.L (a + 3)) tZ sl0 sl0 sl0) 44)))
         have B6:=Lib.hid (Blk.new w5 44 (stC 5 (tx C.L (a + 3)) tZ sl0 sl0 sl0))
         have z5:=R5.out.lt)
      | (go_at_call 115; refine (want_any R6.out.ps ⟨#[59]⟩ (by decide)).mono ?_; rintro r w7 (⟨h7,rfl,m7⟩ | ⟨h7,rfl,m7⟩) <;> have R7:=Lib.hid (R6.out.to m7 hlt))
      | ((with_reducible show wpList _ _ _ (Oper.mk (some 18) (.load 44 (.tmp 3)) _ _ _ _ :: _) _ _); refine wpList_ldb rfl _ _ rfl _ _ (stC 5 (tx C.L (a + 3)) tZ sl0 sl0 sl0) rfl (B6.out.px m7.px (by omega)) _ Tryz.underlying44 rfl HZ.out ?_)
      | ((with_reducible show wpList _ _ _ (Oper.mk none (.store 44 (.tmp 2) _) _ _ _ _ :: _) _ _); refine wpList_store_row rfl _ _ _ rfl _ rfl _ zSt _ R7.out.res rfl rfl (stC_sl0 5 _ tZ) HZ.out ?_))
     ·refine bodyPost_ret (results_cell_row rfl _ _ w.heap.size _ (stC 5 (tx C.L (a + 3)) tZ sl0 sl0 sl0) (0,0) _ rfl (R7.out.res.row _) Tryz.underlying44 rfl HZ.out) rfl ?_
      exact R7.out.fin hlt (nv_st0 (V:=vp (w.heap.size < ·) w7)) (fun i hi=>hi) (by rw [e2.out]; exact if_pos h7)
     ·exact And.intro rfl (fin_bad R7.out.mv (by rw [e2.out]; exact if_neg h7))
    ·go_enter Tryz.func218,Tryz.ntmps218
     go_wp2_with (first
      | (go_at_call 115; (with_reducible show Calls _ _ #[_,.string ⟨#[114,101,116,117,114,110]⟩] _ _); refine (want_any R0.out.ps ⟨#[114,101,116,117,114,110]⟩ (by decide)).mono ?_; rintro r w1 (⟨_,rfl,m1⟩ | ⟨hq,rfl,m1⟩); rotate_left; exact absurd hw hq; have R1:=Lib.hid (R0.out.to m1 hlt))
      | (go_at_call 113; (with_reducible show Calls _ _ #[_,.string ⟨#[59]⟩] _ _); refine (next_any R1.out.ps ⟨#[59]⟩ (by decide)).mono ?_; rintro r w2 (⟨hq,rfl,m2⟩ | ⟨_,rfl,m2⟩); exact absurd hq h1; have R2:=Lib.hid (R1.out.to m2 hlt))
      | (go_at_call 113; refine (next_any R2.out.ps ⟨#[101,114,114,111,114]⟩ (by decide)).mono ?_; rintro r w3 (⟨_,rfl,m3⟩ | ⟨hq,rfl,m3⟩); rotate_left; exact absurd h2 hq; have R3:=Lib.hid (R2.out.to m3 hlt))
      | (go_at_call 115; (with_reducible show Calls _ _ #[_,.string ⟨#[46]⟩] _ _); refine (want_any R3.out.ps ⟨#[46]⟩ (by decide)).mono ?_; rintro r w4 (⟨_,rfl,m4⟩ | ⟨hq,rfl,m4⟩); rotate_left; exact absurd h3 hq; have R4:=Lib.hid (R3.out.to m4 hlt))
      | (go_at_call 114; refine (name_any R4.out.ps).mono ?_; rintro r w5 (⟨hq,rfl,m5⟩ | ⟨_,rfl,m5⟩); exact absurd hq h4; have R5:=Lib.hid (R4.out.to m5 hlt)))
     exact And.intro rfl (fin_bad R5.out.mv (by unfold retS wnt nam; rw [if_neg h1,if_pos h2,if_pos h3,if_neg h4]))
   ·go_enter Tryz.func218,Tryz.ntmps218
    go_wp2_with (first
     | (go_at_call 115; (with_reducible show Calls _ _ #[_,.string ⟨#[114,101,116,117,114,110]⟩] _ _); refine (want_any R0.out.ps ⟨#[114,101,116,117,114,110]⟩ (by decide)).mono ?_; rintro r w1 (⟨_,rfl,m1⟩ | ⟨hq,rfl,m1⟩); rotate_left; exact absurd hw hq; have R1:=Lib.hid (R0.out.to m1 hlt))
     | (go_at_call 113; (with_reducible show Calls _ _ #[_,.string ⟨#[59]⟩] _ _); refine (next_any R1.out.ps ⟨#[59]⟩ (by decide)).mono ?_; rintro r w2 (⟨hq,rfl,m2⟩ | ⟨_,rfl,m2⟩); exact absurd hq h1; have R2:=Lib.hid (R1.out.to m2 hlt))
     | (go_at_call 113; refine (next_any R2.out.ps ⟨#[101,114,114,111,114]⟩ (by decide)).mono ?_; rintro r w3 (⟨_,rfl,m3⟩ | ⟨hq,rfl,m3⟩); rotate_left; exact absurd h2 hq; have R3:=Lib.hid (R2.out.to m3 hlt))
     | (go_at_call 115; refine (want_any R3.out.ps ⟨#[46]⟩ (by decide)).mono ?_; rintro r w4 (⟨hq,rfl,m4⟩ | ⟨_,rfl,m4⟩); exact absurd hq h3; have R4:=Lib.hid (R3.out.to m4 hlt)))
    exact And.intro rfl (fin_bad R4.out.mv (by unfold retS wnt; rw [if_neg h1,if_pos h2,if_neg h3]))
  ·have e2:Hid (retS C.L (gram C.L) (a + 1)=valE C (a + 1) false fun x c=>some (.ok (stN 4 ⟨#[]⟩ tZ x .nil .nil) c)):=by unfold Hid retS; rw [if_neg h1,if_neg h2]; rfl
   have HV:=Lib.hid fun w1 (k:PS C (a + 1) w1)=>valued_any k 4 ⟨#[]⟩ tZ false (HE.out (a + 1) (by omega))
   go_enter Tryz.func218,Tryz.ntmps218
   go_wp2_with (first
    | (go_at_call 115; refine (want_any R0.out.ps ⟨#[114,101,116,117,114,110]⟩ (by decide)).mono ?_; rintro r w1 (⟨_,rfl,m1⟩ | ⟨hq,rfl,m1⟩); rotate_left; exact absurd hw hq; have R1:=Lib.hid (R0.out.to m1 hlt))
    | (go_at_call 113; (with_reducible show Calls _ _ #[_,.string ⟨#[59]⟩] _ _); refine (next_any R1.out.ps ⟨#[59]⟩ (by decide)).mono ?_; rintro r w2 (⟨hq,rfl,m2⟩ | ⟨_,rfl,m2⟩); exact absurd hq h1; have R2:=Lib.hid (R1.out.to m2 hlt))
    | (go_at_call 113; refine (next_any R2.out.ps ⟨#[101,114,114,111,114]⟩ (by decide)).mono ?_; rintro r w3 (⟨hq,rfl,m3⟩ | ⟨_,rfl,m3⟩); exact absurd hq h2; have R3:=Lib.hid (R2.out.to m3 hlt))
    | (go_at_call 217; refine (HV.out _ R3.out.ps).mono ?_; rintro r w7 (⟨x,c,cs,hg,rfl,hnv,hmv⟩ | ⟨c,hg,rfl,hmv⟩) <;> (have R7:=Lib.hid (R3.out.to hmv hlt)) <;> (have hz:=R3.out.lt))
    | ((with_reducible show wpList _ _ _ (Oper.mk none (.store 44 (.tmp 2) _) _ _ _ _ :: _) _ _); refine wpList_store_row rfl _ _ _ rfl _ rfl _ zSt _ R7.out.res rfl hnv.size hnv.one (by rw [show cs.size=10 from hnv.size]; exact HZ.out) ?_))
   ·refine bodyPost_ret (results_cell_row rfl _ _ w.heap.size _ cs (0,0) _ rfl (R7.out.res.row _) Tryz.underlying44 rfl (by rw [show cs.size=10 from hnv.size]; exact HZ.out)) rfl ?_
    exact R7.out.fin hlt hnv (fun i hi=>by omega) (by rw [e2.out,hg.out])
   ·exact And.intro rfl (fin_bad R7.out.mv (by rw [e2.out,hg.out]))
section
variable {a:Act} {w:World} {o:Oper}
theorem exec_ld1 {ty:TypeId} {x:Operand} (ho:o.op=.load ty x) {p:Addr} (hx:a.eval x=.pointer (some p)) {v:Value} (hB:w.cell? p=some v) {d:TypeDesc} (hu:Tryz.prog.underlying ty=some d) (hd:d.isRow=false):(execOp a.eval o).run Tryz.prog w=.ok (.value v) w:=by
 simp only [execOp,ho,hx]
 go_simp
 have h:=run_isAgg_plain (P:=Tryz.prog) hu (by cases d <;> first | rfl | cases hd) w
 simp only [h,Result.andThen_ok,hB]
 rfl
end
theorem thn_ok {p:Option Rs} {f:Nd → Nat → Option Rs} {x:Nd} {b:Nat} (h:p=some (.ok x b)):thn p f=f x b:=by rw [h]; rfl
theorem thn_bad {p:Option Rs} {f:Nd → Nat → Option Rs} {b:Nat} (h:p=some (.bad b)):thn p f=some (.bad b):=by rw [h]; rfl
theorem Gw.shape {lo k:Nat} {E:TypeId} {v:Value} {x:Nd} {wr:World} (h:Gw lo E k v x wr):∃ A n c,v=.slice A n c:=by
 obtain ⟨xs,h1,h2⟩:=h
 rcases h1.2 with ⟨rfl,_⟩ | ⟨g',cap,cur,rfl,_⟩ <;> exact ⟨_,_,_,rfl⟩
structure LoSt (C:Cx) (w:World) (op:Int) (nm:ByteArray) (ty:Ty) (b:Nat) (v:Value) (acc:Nd) (wr:World):Prop where
 rc:Rc C w 44 zSt (stC op nm ty v sl0 sl0) b wr
 gw:Gw (w.heap.size + 2) 36 0 v acc wr
section
variable {C:Cx} {w wr w2 w4 w':World} {b c:Nat} {op:Int} {nm:ByteArray} {ty:Ty} {v v':Value} {acc x:Nd} {cs:Array Value} {xs:List Value} {t:TypeId} {zv:Array Value}
theorem Rc.grown {row:Option Nat} (h:Rc C w t zv cs b w2) (r:w2.grownBy w' row) (hr:∀ k,row=some k → w.heap.size + 2 ≤ k) (hm:C.m < w.heap.size):Rc C w t zv cs b w' :=
 ⟨h.mv.grown r (fun k hk=>by have:=hr k hk; omega) hm,(r.block _ h.res.lt fun e=>by have:=hr _ e.symm; omega).trans h.res,(r.block _ h.box.lt fun e=>by have:=hr _ e.symm; omega).trans h.box⟩
theorem LoSt.to (h:LoSt C w op nm ty b v acc wr) (k:Mv C wr c w2) (hm:C.m < w.heap.size):LoSt C w op nm ty c v acc w2:=⟨h.rc.to k hm,h.gw.px k.px (by omega)⟩
theorem LoSt.put (h:LoSt C w op nm ty b v acc w2) (k:Mv C w2 c w4) (hm:C.m < w.heap.size) (hnv:Nv (vp (w2.heap.size ≤ ·) w4) 0 x cs)
  (h1:(w4.alloc (.cells cs 36)).ownsRow (w.heap.size + 2) 36 (szK 0) v acc.len xs) (h2:Elems (vp (fun i=>w.heap.size + 2 ≤ i∧v.ownBlock ≠ some i) (w4.alloc (.cells cs 36))) acc 0 xs)
  (r1:w'.ownsRow (w.heap.size + 2) 36 (szK 0) v' (acc.len + 1) (xs ++ cs.toList)) (r2:(w4.alloc (.cells cs 36)).grownBy w' v.ownBlock) (r3:v'.ownBlock=v.ownBlock ∨ v'.ownBlock=some (w4.alloc (.cells cs 36)).heap.size) :
  Rc C w 44 zSt (stC op nm ty v sl0 sl0) c w'∧LoSt C w op nm ty c v' (acc.app x) (w'.setCell ⟨w.heap.size + 1,7,none⟩ v'):=by
 have hr:=(((h.rc.to k hm).ext ((Ext.refl w4).alloc _)).grown r2 (fun k hk=>(h.gw.own_lt hk).1) hm)
 have hg:Gw (w.heap.size + 2) 36 0 v' (acc.app x) w':=Gw.grown h1 h2 (hnv.ext ((Ext.refl w4).alloc _) fun _ hi _=>hi) (by have:=h.rc.lt; omega) (fun _ hg=>(h.gw.own_lt hg).2) r1 r2 r3
 exact ⟨hr,hr.set_ hm 7 v',hg.px ((Px.refl (w.heap.size + 1) w').setM 7 v') (by omega)⟩
theorem Sl.shape {V:Vw} {v:Value} {x:Nd} {k:Nat} (h:Sl V v x k):∃ A n c,v=.slice A n c∧v.oneCell'=true:=by
 obtain ⟨A,c,_,rfl,_⟩:=h
 exact ⟨_,_,_,rfl,rfl⟩
theorem bl_sl {p:Nat → Prop} {w:World} {v:Value} {z:Nd} {g c:Nat} {t:TypeId} (hs:Sl (vp p w) v z 1) (hb:Blk w g t #[v]) (hg:p g):Sl (vp p w) (.slice (some ⟨g,0,none⟩) 1 c) (.bl z .nil) 2 :=
 Sl.new (cs:=[v]) ⟨rfl,v,[],rfl,hs,rfl⟩ (fun i=>(vp_new hb hg i).trans (by simp)) rfl
theorem LoSt.fill {A:Option Addr} {n d:Nat} {p:Nat → Prop} {z:Nd} (h:LoSt C w op nm ty b v acc w2) (hm:C.m < w.heap.size) (hv:v'=.slice A n d) (hs:Sl (vp p w2) v' z 1) (hp:∀ i,p i → w.heap.size + 1 < i) :
  Rc C w 44 zSt (stC op nm ty v (.slice (some ⟨w2.heap.size,0,none⟩) 1 1) sl0) b ((w2.alloc (.cells #[.slice A n d] 34)).setCell ⟨w.heap.size + 1,8,none⟩ (.slice (some ⟨w2.heap.size,0,none⟩) 1 1)) ∧
  Nv (vp (w.heap.size + 1 < ·) ((w2.alloc (.cells #[.slice A n d] 34)).setCell ⟨w.heap.size + 1,8,none⟩ (.slice (some ⟨w2.heap.size,0,none⟩) 1 1))) 1 (stN op nm ty acc (.bl z .nil) .nil) (stC op nm ty v (.slice (some ⟨w2.heap.size,0,none⟩) 1 1) sl0) ∧
  (w2.alloc (.cells #[.slice A n d] 34)).cell? ⟨w.heap.size + 1,8,none⟩=some sl0∧∀ i,(w2.alloc (.cells #[.slice A n d] 34)).frozen? ⟨w.heap.size + 1,i,none⟩=false:=by
 subst hv
 have x1:=(Ext.refl w2).alloc (.cells #[.slice A n d] 34)
 have r:=h.rc.ext x1
 have px:=(Px.refl (w.heap.size + 1) (w2.alloc (.cells #[.slice A n d] 34))).setM 8 (.slice (some ⟨w2.heap.size,0,none⟩) 1 1)
 refine ⟨r.set_ hm 8 _,nv_st ?_ ?_ (Sl.nil _ none 0 3),r.box.cell 8,r.box.frozen⟩
 ·exact ((h.gw.ext x1).sl).px px fun i hi _=>⟨by omega,by omega⟩
 ·exact (bl_sl (hs.ext x1 (q:=(w.heap.size + 1 < ·)) fun i hi _=>hp i hi) (Blk.new _ _ _) h.rc.lt).px px fun i hi _=>⟨by omega,hi⟩
end
section
variable {ops:Array Oper} {rest:List Oper} {o:Oper} {a:Act} {Q:Exit → Act → World → Prop} {w:World} {K:Act → World → Prop}
theorem fill_bl (A:Option Addr) (n c:Nat):Instr.fill (fun i=>some (i * 1,1)) ((Array.range (1 * 1)).map ((Value.slice none 0 0).cells[· % (Value.slice none 0 0).cells.size]!)) [(0,.slice A n c)]=some #[.slice A n c]:=by kernel_rfl
theorem wp_bsB (x:Operand) (ho:o.op=.buildSlice 41 1 #[(0,x)]) (A:Option Addr) (n c:Nat) (hx:a.eval x=.slice A n c) (h:K (a.put o.dst (.slice (some ⟨w.heap.size,0,none⟩) 1 1)) (w.alloc (.cells #[.slice A n c] 34))):o.wp Tryz.prog a w K Q:=by
 obtain ⟨i0,hi0,hz0,hz1,hz2⟩:=info_parts infoBl
 refine wp_buildSlice _ 34 1 _ ho _ i0 _ Tryz.underlying41 hi0 hz0 (by rw [hz1]; decide) (by rw [hz1]; decide) ?_ h
 rw [hz1,show (#[(0,x)].map fun (i,x)=>(i,a.eval x)).toList=[(0,.slice A n c)] by simp [hx]]
 exact fill_bl A n c
end
theorem loop_any {C:Cx} {a:Nat} {w:World} (h:PS C a w) (op:Int) (q:Nat) (hw:(op=8∧tx C.L a=⟨#[102,111,114]⟩∧a=q) ∨ (op=9∧tx C.L a=⟨#[105,110,108,105,110,101]⟩∧a + 1=q))
  (HE0:∀ b,a < b → EX C b) (HB0:∀ b,a < b → BL C b):Calls Tryz.prog 220 #[Pp C] w (Out C w 1 (wnt C.L q ⟨#[102,111,114]⟩ (loopS C.L (gram C.L) (q + 1) op))):=by
 have HZ:Hid ((Tryz.prog.info? 44).map (·.size)=some 10):=by unfold Hid; kernel_rfl
 have hlt:=h.lt
 have R0:Hid (Rc C w 44 zSt (stC 8 ⟨#[]⟩ tZ sl0 sl0 sl0) a ((w.alloc (.cells zSt 44)).alloc (.cells (stC 8 ⟨#[]⟩ tZ sl0 sl0 sl0) 44))):=Rc.init h _ _ _
 have HE:=Lib.hid HE0
 have HB:=Lib.hid HB0
 generalize hr0:(wnt C.L q ⟨#[102,111,114]⟩ (loopS C.L (gram C.L) (q + 1) op))=r0
 have E0:=Lib.hid hr0.symm
 clear h HE0 HB0 hr0
 go_enter Tryz.func220,Tryz.ntmps220
 go_upto_region 2 with fail
 go_cut [6] from 5 to 6 (fun c wx=>c=.bool (op == 9)∧Hid (Rc C w 44 zSt (stC 8 ⟨#[]⟩ tZ sl0 sl0 sl0) (if op=9 then a + 1 else a) wx))
 case first =>
  rcases hw with ⟨rfl,hx,rfl⟩ | ⟨rfl,hx,rfl⟩
  ·go_wp2_with (first
    | (go_at_call 113; refine (next_any R0.out.ps ⟨#[105,110,108,105,110,101]⟩ (by decide)).mono ?_; rintro r w1 (⟨hq,rfl,h1⟩ | ⟨_,rfl,h1⟩); exact absurd (hx.symm.trans hq) (by decide); have R1:=Lib.hid (R0.out.to h1 hlt)))
   go_meet
   exact ⟨rfl,R1⟩
  ·go_wp2_with (first
    | (go_at_call 113; refine (next_any R0.out.ps ⟨#[105,110,108,105,110,101]⟩ (by decide)).mono ?_; rintro r w1 (⟨_,rfl,h1⟩ | ⟨hq,rfl,h1⟩); rotate_left; exact absurd hx hq; have R1:=Lib.hid (R0.out.to h1 hlt)))
   go_meet
   exact ⟨rfl,R1⟩
 case rest =>
  obtain ⟨rfl,hR⟩:=hcut
  go_upto_if 6 with fail
  go_cut [] from 7 to 7 (fun wx=>Hid (Rc C w 44 zSt (stC op ⟨#[]⟩ tZ sl0 sl0 sl0) q wx)∧a ≤ q)
  case first =>
   rcases hw with ⟨rfl,hx,rfl⟩ | ⟨rfl,hx,rfl⟩
   ·have hR1:Hid (Rc C w 44 zSt (stC 8 ⟨#[]⟩ tZ sl0 sl0 sl0) a wc):=hR
    go_wp2_with fail
    go_meet
    exact ⟨hR1,Nat.le_refl _⟩
   ·have hR1:Hid (Rc C w 44 zSt (stC 8 ⟨#[]⟩ tZ sl0 sl0 sl0) (a + 1) wc):=hR
    have q0:wc.cell? ⟨w.heap.size + 1,0,none⟩=some (.int .i64 8):=hR1.out.box.cell 0
    have qf:∀ i,wc.frozen? ⟨w.heap.size + 1,i,none⟩=false:=hR1.out.box.frozen
    go_wp2_with fail
    go_meet
    exact ⟨hR1.out.set_ hlt 0 (.int .i64 9),by omega⟩
  case rest =>
   clear hR
   obtain ⟨hR,haq⟩:=hcut
   clear R0 hw
   go_upto_region 10 with (first
    | (go_at_call 115; (with_reducible show Calls _ _ #[_,.string ⟨#[102,111,114]⟩] _ _); refine (want_any hR.out.ps ⟨#[102,111,114]⟩ (by decide)).mono ?_; rintro r w1 (⟨h1,rfl,m1⟩ | ⟨h1,rfl,m1⟩) <;> (have R1:=Lib.hid (hR.out.to m1 hlt)) <;> (try have E1:=Lib.hid (E0.out.trans (if_pos h1))))
    | (go_at_call 115; (with_reducible show Calls _ _ #[_,.string ⟨#[40]⟩] _ _); refine (want_any R1.out.ps ⟨#[40]⟩ (by decide)).mono ?_; rintro r w2 (⟨h2,rfl,m2⟩ | ⟨h2,rfl,m2⟩) <;> (have R2:=Lib.hid (R1.out.to m2 hlt)) <;> (try have E2:=Lib.hid (E1.out.trans (if_pos h2))))
    | (go_at_call 114; refine (name_any R2.out.ps).mono ?_; rintro r w3 (⟨h3,rfl,m3⟩ | ⟨h3,rfl,m3⟩) <;> (have R3:=Lib.hid (R2.out.to m3 hlt)) <;> (have q3:w3.cell? ⟨w.heap.size + 1,1,none⟩=some (.string ⟨#[]⟩):=R3.out.box.cell 1) <;> (have qf3:=R3.out.box.frozen) <;> (have R4:=Lib.hid (R3.out.set_ hlt 1 (.string (tx C.L (q + 1 + 1))))) <;> (try have E4:=Lib.hid (E2.out.trans (if_pos h3))))
    | (go_at_call 115; (with_reducible show Calls _ _ #[_,.string ⟨#[58]⟩] _ _); refine (want_any R4.out.ps ⟨#[58]⟩ (by decide)).mono ?_; rintro r w5 (⟨h5,rfl,m5⟩ | ⟨h5,rfl,m5⟩) <;> (have R5:=Lib.hid (R4.out.to m5 hlt)) <;> (try have E5:=Lib.hid (E4.out.trans (if_pos h5))))
    | (go_at_call 116; refine (typ_cnt R5.out.ps).mono ?_; rintro r w6 (⟨ty,b6,ht,rfl,m6⟩ | ⟨b6,ht,rfl,m6⟩) <;> (have R6:=Lib.hid (R5.out.to m6 hlt)) <;> (obtain ⟨ff,f2,f3,f4,f5,f6⟩:=Rc.five R6.out))
    | ((with_reducible show Calls _ _ #[_,.string ⟨#[61]⟩] _ _)
       have R7:Hid (Rc C w 44 zSt (stC op (tx C.L (q + 1 + 1)) ty sl0 sl0 sl0) b6 _):=Rc.typ R6.out hlt ty
       have E7:=Lib.hid (E5.out.trans (by rw [ht.out]; rfl:_=wnt C.L b6 ⟨#[61]⟩ _))
       refine (want_any R7.out.ps ⟨#[61]⟩ (by decide)).mono ?_
       rintro r w8 (⟨h8,rfl,m8⟩ | ⟨h8,rfl,m8⟩) <;> (have R8:=Lib.hid (R7.out.to m8 hlt)) <;> (try have E8:=Lib.hid (E7.out.trans (if_pos h8)))))
   rotate_left
   ·exact And.intro rfl (fin_bad R8.out.mv (E7.out.trans (if_neg h8)))
   ·exact And.intro rfl (fin_bad R6.out.mv (E5.out.trans (by rw [ht.out]; rfl)))
   ·exact And.intro rfl (fin_bad R5.out.mv (E4.out.trans (if_neg h5)))
   ·exact And.intro rfl (fin_bad R3.out.mv (E2.out.trans (if_neg (by rw [h3]; exact Bool.false_ne_true))))
   ·exact And.intro rfl (fin_bad R2.out.mv (E1.out.trans (if_neg h2)))
   ·exact And.intro rfl (fin_bad R1.out.mv (E0.out.trans (if_neg h1)))
   have h6b:a < b6:=by have:=typS_lt ht.out; omega
   have h6l:=R8.out.ps.le
   have E9:Hid (r0=thn (gram C.L (.lvl 0) (b6 + 1)) fun x c=>wnt C.L c ⟨#[46,46]⟩ (thn (gram C.L (.lvl 0) (c + 1)) fun y d=>wnt C.L d ⟨#[41]⟩ (thn (gram C.L .blk (d + 1)) fun z e=>some (.ok (stN op (tx C.L (q + 1 + 1)) ty (x.app y) (.bl z .nil) .nil) e)))):=E8.out
   clear E0 E1 E2 E4 E5 E7 E8 h1 h2 h3 h5 h8 R1 R2 R3 R4 R5 R6 R7 hR q3 qf3 ff f2 f3 f4 f5 f6 m1 m2 m3 m5 m6 m8 ht
   generalize tx C.L (q + 1 + 1)=nm at R8 E9 ⊢
   have S1:Hid (LoSt C w op nm ty (b6 + 1) sl0 .nil w8.drew):=⟨R8.out.ext (Ext.refl w8).drew,Gw.nil _ _ _ _⟩
   clear R8
   refine rg_begin #[false,false,false,false,false,false,false,false] rfl (by kernel_rfl) (fun _ _ _ _ _ h=>h) (fun HQ=>?_)
   (refine ta 0 23 rfl HQ ?_; try simp only [putL,List.set])
   (refine ta 2 25 rfl HQ ?_; try simp only [putL,List.set])
   refine th 1 24 2 [3,4,5,6,7] [⟨some 26,_,_,_,_,_⟩,⟨some 27,_,_,_,_,_⟩,⟨some 28,_,_,_,_,_⟩,⟨some 29,_,_,_,_,_⟩,⟨none,_,_,_,_,_⟩] (fun w'=>w'.cell? ⟨w.heap.size + 1,7,none⟩=some sl0) rfl rfl rfl HQ (S1.out.rc.box.cell 7) (fun w' hB=>exec_ld1 rfl rfl hB Tryz.underlying33 rfl) ?_
   simp only [putL,List.set]
   refine ly_call rfl (by go_simp) (HE.out (b6 + 1) (by omega) _ S1.out.rc.ps) ?_ ?_ ?_
   ·rintro rv w9 (⟨x9,b9,cs,hg9,e,hnv,hmv⟩ | ⟨b9,hg9,e,hmv⟩)
    ·cases e
     have G9:=Lib.hid (S1.out.to hmv hlt)
     refine ⟨G9.out.rc.box.cell 7,?_⟩
     simp only [putL,List.set]
     refine ly_op rfl (wp_bsE _ rfl cs rfl hnv.size ?_)
     refine ⟨(G9.out.rc.ext ((Ext.refl w9).alloc (.cells cs 36))).box.cell 7,?_⟩
     show wpList _ _ _ _ _ _
     simp only [putL,List.set]
     obtain ⟨xs,o1,o2⟩:=G9.out.gw.ext ((Ext.refl w9).alloc (.cells cs 36))
     have hz9:=G9.out.rc.lt
     refine wpList_app1 Tryz.underlying33 infoEx rfl (by decide) (by decide) rfl _ _ rfl (w.heap.size + 2) _ _ xs rfl o1 _ _ cs rfl (Blk.new w9 _ cs) hnv.size hnv.one (by simp [Nd.len]) (by simp only [World.size_alloc]; omega) ?_
     intro v9 wa9 r1 r2 r3
     obtain ⟨hrc,hlo⟩:=S1.out.put hmv hlt hnv o1 o2 r1 r2 r3
     obtain ⟨A9,n9,c9,rfl⟩:=hlo.gw.shape
     have L9:=Lib.hid hlo
     have E9b:=Lib.hid (E9.out.trans (thn_ok hg9.out))
     have qf:=hrc.box.frozen
     have q7:wa9.cell? ⟨w.heap.size + 1,7,none⟩=some sl0:=hrc.box.cell 7
     have hl9:x9.len=1:=hnv.2
     clear o1 o2 r1 r2 r3 hnv hmv hrc hlo G9
     simp only [putL,List.set]
     go_upto_region 12 with (first
      | (go_at_call 115; (with_reducible show Calls _ _ #[_,.string ⟨#[46,46]⟩] _ _); refine (want_any L9.out.rc.ps ⟨#[46,46]⟩ (by decide)).mono ?_; rintro r w10 (⟨h10,rfl,m10⟩ | ⟨h10,rfl,m10⟩) <;> (have L10:=Lib.hid (L9.out.to m10 hlt)) <;> (try have E10:=Lib.hid (E9b.out.trans (if_pos h10)))))
     rotate_left
     ·exact And.intro rfl (fin_bad L10.out.rc.mv (E9b.out.trans (if_neg h10)))
     have S2:Hid (LoSt C w op nm ty (b9 + 1) (.slice A9 n9 c9) (Nd.nil.app x9) w10.drew):=⟨L10.out.rc.ext (Ext.refl w10).drew,L10.out.gw.ext (Ext.refl w10).drew⟩
     have h9b:b6 + 1 ≤ b9:=gram_le _ _ _ _ hg9.out
     refine rg_begin #[false,false,false,false,false,false,false,false] rfl (by kernel_rfl) (fun _ _ _ _ _ h=>h) (fun HQ=>?_)
     (refine ta 0 32 rfl HQ ?_; try simp only [putL,List.set])
     (refine ta 2 34 rfl HQ ?_; try simp only [putL,List.set])
     refine th 1 33 2 [3,4,5,6,7] [⟨some 35,_,_,_,_,_⟩,⟨some 36,_,_,_,_,_⟩,⟨some 37,_,_,_,_,_⟩,⟨some 38,_,_,_,_,_⟩,⟨none,_,_,_,_,_⟩] (fun w'=>w'.cell? ⟨w.heap.size + 1,7,none⟩=some (.slice A9 n9 c9)) rfl rfl rfl HQ (S2.out.rc.box.cell 7) (fun w' hB=>exec_ld1 rfl rfl hB Tryz.underlying33 rfl) ?_
     simp only [putL,List.set]
     refine ly_call rfl (by go_simp) (HE.out (b9 + 1) (by omega) _ S2.out.rc.ps) ?_ ?_ ?_
     ·rintro rv w11 (⟨x11,b11,cs,hg11,e,hnv,hmv⟩ | ⟨b11,hg11,e,hmv⟩)
      ·cases e
       have G11:=Lib.hid (S2.out.to hmv hlt)
       refine ⟨G11.out.rc.box.cell 7,?_⟩
       simp only [putL,List.set]
       refine ly_op rfl (wp_bsE _ rfl cs rfl hnv.size ?_)
       refine ⟨(G11.out.rc.ext ((Ext.refl w11).alloc (.cells cs 36))).box.cell 7,?_⟩
       show wpList _ _ _ _ _ _
       simp only [putL,List.set]
       obtain ⟨xs,o1,o2⟩:=G11.out.gw.ext ((Ext.refl w11).alloc (.cells cs 36))
       have hz11:=G11.out.rc.lt
       refine wpList_app1 Tryz.underlying33 infoEx rfl (by decide) (by decide) rfl _ _ rfl (w.heap.size + 2) _ _ xs rfl o1 _ _ cs rfl (Blk.new w11 _ cs) hnv.size hnv.one (by rw [Nd.app,hl9]; decide) (by simp only [World.size_alloc]; omega) ?_
       intro v11 wa11 r1 r2 r3
       obtain ⟨hrc,hlo⟩:=S2.out.put hmv hlt hnv o1 o2 r1 r2 r3
       obtain ⟨A11,n11,c11,rfl⟩:=hlo.gw.shape
       have L11:=Lib.hid hlo
       have E11:=Lib.hid (E10.out.trans (thn_ok hg11.out))
       have qf:=hrc.box.frozen
       have q7:wa11.cell? ⟨w.heap.size + 1,7,none⟩=some (.slice A9 n9 c9):=hrc.box.cell 7
       have hl11:x11.len=1:=hnv.2
       clear o1 o2 r1 r2 r3 hnv hmv hrc hlo G11
       simp only [putL,List.set]
       have h11b:b9 + 1 ≤ b11:=gram_le _ _ _ _ hg11.out
       go_wp2_with (first
        | (go_at_call 115; (with_reducible show Calls _ _ #[_,.string ⟨#[41]⟩] _ _); refine (want_any L11.out.rc.ps ⟨#[41]⟩ (by decide)).mono ?_; rintro r w12 (⟨h12,rfl,m12⟩ | ⟨h12,rfl,m12⟩) <;> (have L12:=Lib.hid (L11.out.to m12 hlt)) <;> (try have E12:=Lib.hid (E11.out.trans (if_pos h12))))
        | (go_at_call 122; refine (HB.out (b11 + 1) (by omega) _ L12.out.rc.ps).mono ?_; rintro r w13 (⟨z,b13,v13,hg13,rfl,hsl,hmv⟩ | ⟨b13,hg13,rfl,hmv⟩) <;> (have L13:=Lib.hid (L12.out.to hmv hlt)) <;> (have hz12:=L12.out.rc.lt))
        | ((with_reducible show wpList _ _ _ (Oper.mk (some 43) (.buildSlice _ _ _) _ _ _ _ :: _) _ _)
           obtain ⟨A13,n13,c13,hv13,hv1⟩:=Sl.shape hsl
           refine wpList_plain rfl fun _ hK=>wp_bsB _ rfl A13 n13 c13 hv13 (hK _ _ ?_)
           have ff:_∧_∧_∧_:=LoSt.fill L13.out hlt hv13 hsl (fun i hi=>Nat.lt_of_lt_of_le hz12 hi)
           obtain ⟨f1,f2,f3,f4⟩:=ff
           have F1:=Lib.hid f1
           have F2:=Lib.hid f2
           clear f1 f2)
        | ((with_reducible show wpList _ _ _ (Oper.mk (some 45) (.load 44 (.tmp 3)) _ _ _ _ :: _) _ _); refine wpList_ldb rfl _ _ rfl _ _ _ rfl F1.out.box _ Tryz.underlying44 rfl HZ.out ?_)
        | ((with_reducible show wpList _ _ _ (Oper.mk none (.store 44 (.tmp 2) _) _ _ _ _ :: _) _ _); refine wpList_store_row rfl _ _ _ rfl _ rfl _ zSt _ F1.out.res rfl rfl (stC_one rfl rfl rfl) HZ.out ?_))
       ·refine bodyPost_ret (results_cell_row rfl _ _ w.heap.size _ _ (0,0) _ rfl (F1.out.res.row _) Tryz.underlying44 rfl HZ.out) rfl ?_
        exact F1.out.fin hlt F2.out (fun i hi=>by omega) (E12.out.trans (thn_ok hg13.out))
       ·exact And.intro rfl (fin_bad L13.out.rc.mv (E12.out.trans (thn_bad hg13.out)))
       ·exact And.intro rfl (fin_bad L12.out.rc.mv (E11.out.trans (if_neg h12)))
      ·cases e
     ·rintro c w11 (⟨x11,b11,cs,hg11,e,hnv,hmv⟩ | ⟨b11,hg11,e,hmv⟩)
      ·cases e
      ·cases e
       exact And.intro rfl (fin_bad (S2.out.to hmv hlt).rc.mv (E10.out.trans (by rw [hg11.out]; rfl)))
     ·rintro w11 (⟨x11,b11,cs,hg11,e,hnv,hmv⟩ | ⟨b11,hg11,e,hmv⟩) <;> cases e
    ·cases e
   ·rintro c w9 (⟨x9,b9,cs,hg9,e,hnv,hmv⟩ | ⟨b9,hg9,e,hmv⟩)
    ·cases e
    ·cases e
     exact And.intro rfl (fin_bad (S1.out.to hmv hlt).rc.mv (E9.out.trans (by rw [hg9.out]; rfl)))
   ·rintro w9 (⟨x9,b9,cs,hg9,e,hnv,hmv⟩ | ⟨b9,hg9,e,hmv⟩) <;> cases e
end Go.Proofs.YtmmnhbhnjiajhaaGreatDoor.c
