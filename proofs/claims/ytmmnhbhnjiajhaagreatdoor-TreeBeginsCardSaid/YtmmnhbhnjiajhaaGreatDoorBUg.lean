/- A return. -/
import Derived.Test.YtmmnhbhnjiajhaaGreatDoorBUe
namespace Go.Proofs.YtmmnhbhnjiajhaaGreatDoor.c
open Go.RowKit
set_option linter.unusedVariables false
set_option maxRecDepth 100000
set_option maxHeartbeats 3200000
set_option linter.unusedSimpArgs false
theorem Rx.fin {C:Cx} {w w2:World} {t:TypeId} {zv ds:Array Value} {b k:Nat} {p:Nat → Prop} {x:Nd} {r:Option Rs} (R:Rx C w t zv b w2) (hm:C.m < w.heap.size) (hn:Nv (vp p w2) k x ds) (hp:∀ i,p i → w.heap.size < i) (hr:r=some (.ok x b)):Out C w k r (.returned (.agg ds)) (w2.setRow w.heap.size ds):=fin_emp R hm hn hp hr
theorem nv_st0 {V:Vw} {op:Int} {nm:ByteArray} {ty:Ty}:Nv V 1 (stN op nm ty .nil .nil .nil) (stC op nm ty sl0 sl0 sl0):=nv_st (Sl.nil V none 0 0) (Sl.nil V none 0 2) (Sl.nil V none 0 3)
theorem ret_any {C:Cx} {a:Nat} {w:World} (h:PS C a w) (hw:tx C.L a=⟨#[114,101,116,117,114,110]⟩) (HE0:∀ b,a < b → EX C b):Calls Tryz.prog 218 #[Pp C] w (Out C w 1 (retS C.L (gram C.L) (a + 1))):=by
 have HZ:Hid ((Tryz.prog.info? 44).map (·.size)=some 10):=by unfold Hid; kernel_rfl
 have hlt:=h.lt
 have R0:Hid (Rx C w 44 zSt a (w.alloc (.cells zSt 44))):=Rx.init h _ _
 have HE:=Lib.hid HE0
 clear h HE0
 by_cases h1:tx C.L (a + 1)=⟨#[59]⟩
 ·go_enter Tryz.func218,Tryz.ntmps218
  go_wp2_with (first
   | (go_at_call 115; refine (want_any R0.out.ps ⟨#[114,101,116,117,114,110]⟩ (by decide)).mono ?_; rintro r w1 (⟨_,rfl,m1⟩ | ⟨hq,rfl,m1⟩); rotate_left; exact absurd hw hq; have R1:=Lib.hid (R0.out.to m1 hlt))
   | (go_at_call 113; refine (next_any R1.out.ps ⟨#[59]⟩ (by decide)).mono ?_; rintro r w2 (⟨_,rfl,m2⟩ | ⟨hq,rfl,m2⟩); rotate_left; exact absurd h1 hq; have R2:=Lib.hid (R1.out.to m2 hlt))
   | ((with_reducible show wpList _ _ _ (Oper.mk none (.store 44 (.tmp 2) _) _ _ _ _ :: _) _ _); refine wpList_store_row rfl _ _ _ rfl _ rfl _ zSt _ R2.out.res rfl rfl (stC_sl0 4 ⟨#[]⟩ tZ) HZ.out ?_))
  refine bodyPost_ret (results_cell_row rfl _ _ w.heap.size _ (stC 4 ⟨#[]⟩ tZ sl0 sl0 sl0) (0,0) _ rfl (R2.out.res.row _) Tryz.underlying44 rfl HZ.out) rfl ?_
  exact R2.out.fin hlt (nv_st0 (V:=vp (w.heap.size < ·) w2)) (fun i hi=>hi) (by unfold retS; rw [if_pos h1])
 ·by_cases h2:tx C.L (a + 1)=⟨#[101,114,114,111,114]⟩
  ·by_cases h3:tx C.L (a + 2)=⟨#[46]⟩
   ·by_cases h4:isW C.L (a + 3)=true
    ·have e2:Hid (retS C.L (gram C.L) (a + 1)=wnt C.L (a + 4) ⟨#[59]⟩ (some (.ok (stN 5 (tx C.L (a + 3)) tZ .nil .nil .nil) (a + 5)))):=by
      unfold Hid retS wnt nam; rw [if_neg h1,if_pos h2,if_pos h3,if_pos h4]
     go_enter Tryz.func218,Tryz.ntmps218
     go_wp2_with (first
      | (go_at_call 115; (with_reducible show Calls _ _ #[_,.string ⟨#[114,101,116,117,114,110]⟩] _ _); refine (want_any R0.out.ps ⟨#[114,101,116,117,114,110]⟩ (by decide)).mono ?_; rintro r w1 (⟨_,rfl,m1⟩ | ⟨hq,rfl,m1⟩); rotate_left; exact absurd hw hq; have R1:=Lib.hid (R0.out.to m1 hlt))
      | (go_at_call 113; (with_reducible show Calls _ _ #[_,.string ⟨#[59]⟩] _ _); refine (next_any R1.out.ps ⟨#[59]⟩ (by decide)).mono ?_; rintro r w2 (⟨hq,rfl,m2⟩ | ⟨_,rfl,m2⟩); exact absurd hq h1; have R2:=Lib.hid (R1.out.to m2 hlt))
      | (go_at_call 113; refine (next_any R2.out.ps ⟨#[101,114,114,111,114]⟩ (by decide)).mono ?_; rintro r w3 (⟨_,rfl,m3⟩ | ⟨hq,rfl,m3⟩); rotate_left; exact absurd h2 hq; have R3:=Lib.hid (R2.out.to m3 hlt))
      | (go_at_call 115; (with_reducible show Calls _ _ #[_,.string ⟨#[46]⟩] _ _); refine (want_any R3.out.ps ⟨#[46]⟩ (by decide)).mono ?_; rintro r w4 (⟨_,rfl,m4⟩ | ⟨hq,rfl,m4⟩); rotate_left; exact absurd h3 hq; have R4:=Lib.hid (R3.out.to m4 hlt))
      | (go_at_call 114; refine (name_any R4.out.ps).mono ?_; rintro r w5 (⟨_,rfl,m5⟩ | ⟨hq,rfl,m5⟩); rotate_left; rw [h4] at hq; cases hq; have R5:=Lib.hid (R4.out.to m5 hlt)
         have R6:=Lib.hid (R5.out.ext ((Ext.refl w5).alloc (.cells (stC 5 (tx C.L (a + 3)) tZ sl0 sl0 sl0) 44)))
         have B6:=Lib.hid (Blk.new w5 44 (stC 5 (tx C.L (a + 3)) tZ sl0 sl0 sl0))
         have z5:=R5.out.lt)
      | (go_at_call 115; refine (want_any R6.out.ps ⟨#[59]⟩ (by decide)).mono ?_; rintro r w7 (⟨h7,rfl,m7⟩ | ⟨h7,rfl,m7⟩) <;> have R7:=Lib.hid (R6.out.to m7 hlt))
      | ((with_reducible show wpList _ _ _ (Oper.mk (some 18) (.load 44 (.tmp 3)) _ _ _ _ :: _) _ _); refine wpList_ldb rfl _ _ rfl _ _ (stC 5 (tx C.L (a + 3)) tZ sl0 sl0 sl0) rfl (B6.out.px m7.px (by omega)) _ Tryz.underlying44 rfl HZ.out ?_)
      | ((with_reducible show wpList _ _ _ (Oper.mk none (.store 44 (.tmp 2) _) _ _ _ _ :: _) _ _); refine wpList_store_row rfl _ _ _ rfl _ rfl _ zSt _ R7.out.res rfl rfl (stC_sl0 5 _ tZ) HZ.out ?_))
     ·refine bodyPost_ret (results_cell_row rfl _ _ w.heap.size _ (stC 5 (tx C.L (a + 3)) tZ sl0 sl0 sl0) (0,0) _ rfl (R7.out.res.row _) Tryz.underlying44 rfl HZ.out) rfl ?_
      exact R7.out.fin hlt (nv_st0 (V:=vp (w.heap.size < ·) w7)) (fun i hi=>hi) (by rw [e2.out]; exact if_pos h7)
     ·exact And.intro rfl (fin_bad R7.out.mv (by rw [e2.out]; exact if_neg h7))
    ·go_enter Tryz.func218,Tryz.ntmps218
     go_wp2_with (first
      | (go_at_call 115; (with_reducible show Calls _ _ #[_,.string ⟨#[114,101,116,117,114,110]⟩] _ _); refine (want_any R0.out.ps ⟨#[114,101,116,117,114,110]⟩ (by decide)).mono ?_; rintro r w1 (⟨_,rfl,m1⟩ | ⟨hq,rfl,m1⟩); rotate_left; exact absurd hw hq; have R1:=Lib.hid (R0.out.to m1 hlt))
      | (go_at_call 113; (with_reducible show Calls _ _ #[_,.string ⟨#[59]⟩] _ _); refine (next_any R1.out.ps ⟨#[59]⟩ (by decide)).mono ?_; rintro r w2 (⟨hq,rfl,m2⟩ | ⟨_,rfl,m2⟩); exact absurd hq h1; have R2:=Lib.hid (R1.out.to m2 hlt))
      | (go_at_call 113; refine (next_any R2.out.ps ⟨#[101,114,114,111,114]⟩ (by decide)).mono ?_; rintro r w3 (⟨_,rfl,m3⟩ | ⟨hq,rfl,m3⟩); rotate_left; exact absurd h2 hq; have R3:=Lib.hid (R2.out.to m3 hlt))
      | (go_at_call 115; (with_reducible show Calls _ _ #[_,.string ⟨#[46]⟩] _ _); refine (want_any R3.out.ps ⟨#[46]⟩ (by decide)).mono ?_; rintro r w4 (⟨_,rfl,m4⟩ | ⟨hq,rfl,m4⟩); rotate_left; exact absurd h3 hq; have R4:=Lib.hid (R3.out.to m4 hlt))
      | (go_at_call 114; refine (name_any R4.out.ps).mono ?_; rintro r w5 (⟨hq,rfl,m5⟩ | ⟨_,rfl,m5⟩); exact absurd hq h4; have R5:=Lib.hid (R4.out.to m5 hlt)))
     exact And.intro rfl (fin_bad R5.out.mv (by unfold retS wnt nam; rw [if_neg h1,if_pos h2,if_pos h3,if_neg h4]))
   ·go_enter Tryz.func218,Tryz.ntmps218
    go_wp2_with (first
     | (go_at_call 115; (with_reducible show Calls _ _ #[_,.string ⟨#[114,101,116,117,114,110]⟩] _ _); refine (want_any R0.out.ps ⟨#[114,101,116,117,114,110]⟩ (by decide)).mono ?_; rintro r w1 (⟨_,rfl,m1⟩ | ⟨hq,rfl,m1⟩); rotate_left; exact absurd hw hq; have R1:=Lib.hid (R0.out.to m1 hlt))
     | (go_at_call 113; (with_reducible show Calls _ _ #[_,.string ⟨#[59]⟩] _ _); refine (next_any R1.out.ps ⟨#[59]⟩ (by decide)).mono ?_; rintro r w2 (⟨hq,rfl,m2⟩ | ⟨_,rfl,m2⟩); exact absurd hq h1; have R2:=Lib.hid (R1.out.to m2 hlt))
     | (go_at_call 113; refine (next_any R2.out.ps ⟨#[101,114,114,111,114]⟩ (by decide)).mono ?_; rintro r w3 (⟨_,rfl,m3⟩ | ⟨hq,rfl,m3⟩); rotate_left; exact absurd h2 hq; have R3:=Lib.hid (R2.out.to m3 hlt))
     | (go_at_call 115; refine (want_any R3.out.ps ⟨#[46]⟩ (by decide)).mono ?_; rintro r w4 (⟨hq,rfl,m4⟩ | ⟨_,rfl,m4⟩); exact absurd hq h3; have R4:=Lib.hid (R3.out.to m4 hlt)))
    exact And.intro rfl (fin_bad R4.out.mv (by unfold retS wnt; rw [if_neg h1,if_pos h2,if_neg h3]))
  ·have e2:Hid (retS C.L (gram C.L) (a + 1)=valE C (a + 1) false fun x c=>some (.ok (stN 4 ⟨#[]⟩ tZ x .nil .nil) c)):=by unfold Hid retS; rw [if_neg h1,if_neg h2]; rfl
   have HV:=Lib.hid fun w1 (k:PS C (a + 1) w1)=>valued_any k 4 ⟨#[]⟩ tZ false (HE.out (a + 1) (by omega))
   go_enter Tryz.func218,Tryz.ntmps218
   go_wp2_with (first
    | (go_at_call 115; refine (want_any R0.out.ps ⟨#[114,101,116,117,114,110]⟩ (by decide)).mono ?_; rintro r w1 (⟨_,rfl,m1⟩ | ⟨hq,rfl,m1⟩); rotate_left; exact absurd hw hq; have R1:=Lib.hid (R0.out.to m1 hlt))
    | (go_at_call 113; (with_reducible show Calls _ _ #[_,.string ⟨#[59]⟩] _ _); refine (next_any R1.out.ps ⟨#[59]⟩ (by decide)).mono ?_; rintro r w2 (⟨hq,rfl,m2⟩ | ⟨_,rfl,m2⟩); exact absurd hq h1; have R2:=Lib.hid (R1.out.to m2 hlt))
    | (go_at_call 113; refine (next_any R2.out.ps ⟨#[101,114,114,111,114]⟩ (by decide)).mono ?_; rintro r w3 (⟨hq,rfl,m3⟩ | ⟨_,rfl,m3⟩); exact absurd hq h2; have R3:=Lib.hid (R2.out.to m3 hlt))
    | (go_at_call 217; refine (HV.out _ R3.out.ps).mono ?_; rintro r w7 (⟨x,c,cs,hg,rfl,hnv,hmv⟩ | ⟨c,hg,rfl,hmv⟩) <;> (have R7:=Lib.hid (R3.out.to hmv hlt)) <;> (have hz:=R3.out.lt))
    | ((with_reducible show wpList _ _ _ (Oper.mk none (.store 44 (.tmp 2) _) _ _ _ _ :: _) _ _); refine wpList_store_row rfl _ _ _ rfl _ rfl _ zSt _ R7.out.res rfl hnv.size hnv.one (by rw [show cs.size=10 from hnv.size]; exact HZ.out) ?_))
   ·refine bodyPost_ret (results_cell_row rfl _ _ w.heap.size _ cs (0,0) _ rfl (R7.out.res.row _) Tryz.underlying44 rfl (by rw [show cs.size=10 from hnv.size]; exact HZ.out)) rfl ?_
    exact R7.out.fin hlt hnv (fun i hi=>by omega) (by rw [e2.out,hg.out])
   ·exact And.intro rfl (fin_bad R7.out.mv (by rw [e2.out,hg.out]))
end Go.Proofs.YtmmnhbhnjiajhaaGreatDoor.c
