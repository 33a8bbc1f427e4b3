/- A name or a call. -/
import Derived.Test.YtmmnhbhnjiajhaaGreatDoorSUo
import Derived.Test.YtmmnhbhnjiajhaaGreatDoorSTw
namespace Go.Proofs.YtmmnhbhnjiajhaaGreatDoor.c
open Go.RowKit
set_option linter.unusedVariables false
set_option maxRecDepth 100000
set_option maxHeartbeats 3200000
set_option linter.unusedSimpArgs false
theorem PS.tokAt {C:Cx} {a:Nat} {w:World} (h:PS C a w) {j:Nat} (ha:j < C.L.length):∃ b o,C.A=some ⟨b,o,none⟩∧b < w.heap.size∧w.cell? ⟨b,o + j * 3 + 2,none⟩=some (.string (tx C.L j)):=by
 obtain ⟨b,o,e,hb,hc⟩:=C.tok (by omega)
 have h2:=hc j 2 ha (by omega)
 exact ⟨b,o,e,Nat.lt_of_lt_of_le hb h.ext.size,by rw [tx_at ha]; exact (h.ext.cell (p:=⟨b,_,none⟩) hb).trans h2⟩
theorem Gw.shapeN {lo k:Nat} {E:TypeId} {v:Value} {x:Nd} {wr:World} (h:Gw lo E k v x wr):∃ A c,v=.slice A x.len c:=by
 obtain ⟨xs,h1,h2⟩:=h
 rcases h1.2 with ⟨rfl,e⟩ | ⟨g',cap,cur,rfl,_⟩
 ·exact ⟨none,0,by rw [e]⟩
 ·exact ⟨_,_,rfl⟩
section
variable {P:Program} {ops:Array Oper} {Q:Exit → Act → World → Prop} {md:Region.Mode} {fuel:Nat} {listed:Array Bool} {a:Act} {w:World} {op:Op} {ty:TypeId} {ps:String} {af:Array Edge} {g:Option (Nat × Bool)}
theorem ts (i t:Nat) (hi:ops[i]?=some ⟨some t,op,ty,ps,af,g⟩) (hQ:Calm Q) (h:wpAny P md ops Q fuel (listed.setIfInBounds i true) (a.put (some t) undef) w) (hok:okT md ops listed i=true:=by kernel_rfl)
  (hw:Region.wanted ⟨some t,op,ty,ps,af,g⟩ (yielded ops a.tmps)=false:=by rfl):wpAny P md ops Q (fuel + 1) listed a w:=by
 obtain ⟨h1,h2,h3⟩:=okT_spec hok
 exact wpAny_take hi h1 h2 h3 (fun c a w=>hQ c a _ _ w) (.inr ⟨hw,rfl⟩) h
theorem tf_val (i t:Nat) {v:Value} (hi:ops[i]?=some ⟨some t,op,ty,ps,af,g⟩) (he:(execOp a.eval ⟨some t,op,ty,ps,af,g⟩).run P w=.ok (.value v) w) (h:wpAny P md ops Q fuel (listed.setIfInBounds i true) (a.put (some t) v) w)
  (hw:Region.wanted ⟨some t,op,ty,ps,af,g⟩ (yielded ops a.tmps)=true:=by rfl) (hre:(Region.ready md ops listed == [i])=true:=by kernel_rfl):wpAny P md ops Q (fuel + 1) listed a w:=by
 have hre:=beq_iff_eq.1 hre
 refine ⟨fun h0=>(by rw [hre] at h0; cases h0),fun j hj=>?_⟩
 rw [hre,List.mem_singleton] at hj
 subst hj
 unfold Go.wpOp
 simp only [hi,hw,if_true,Oper.wp,he,Oper.upon]
 exact .inl h
theorem wp_end (h:Q .normal a w) (hre:(Region.ready md ops listed).isEmpty=true:=by kernel_rfl):wpAny P md ops Q 0 listed a w:=any_of_ops [] listed a w hre h
end
structure PrSt (C:Cx) (w:World) (g:Nat) (nm:ByteArray) (v:Value) (acc:Nd) (b:Nat) (wr:World):Prop where
 rd:Rd C w 36 zEx g (exF 2 tZ nm 0 v sl0) b wr
 gw:Gw (g + 1) 36 0 v acc wr
section
variable {C:Cx} {w wr w2 w4 w':World} {b c g:Nat} {nm:ByteArray} {v v':Value} {acc x:Nd} {cs:Array Value} {xs:List Value}
theorem PrSt.to (h:PrSt C w g nm v acc b wr) (k:Mv C wr c w2) (hm:C.m < w.heap.size):PrSt C w g nm v acc c w2:=have:=h.rd.hg; ⟨h.rd.to k hm,h.gw.px k.px (by omega)⟩
theorem PrSt.ext (h:PrSt C w g nm v acc b wr) (k:Ext wr w2):PrSt C w g nm v acc b w2:=⟨h.rd.ext k,h.gw.ext k⟩
theorem PrSt.ps (h:PrSt C w g nm v acc b wr):PS C b wr:=h.rd.mv.ps
theorem PrSt.put (h:PrSt C w g nm v acc b w2) (k:Mv C w2 c w4) (hm:C.m < w.heap.size) (hnv:Nv (vp (w2.heap.size ≤ ·) w4) 0 x cs)
  (h1:(w4.alloc (.cells cs 36)).ownsRow (g + 1) 36 (szK 0) v acc.len xs) (h2:Elems (vp (fun i=>g + 1 ≤ i∧v.ownBlock ≠ some i) (w4.alloc (.cells cs 36))) acc 0 xs)
  (r1:w'.ownsRow (g + 1) 36 (szK 0) v' (acc.len + 1) (xs ++ cs.toList)) (r2:(w4.alloc (.cells cs 36)).grownBy w' v.ownBlock) (r3:v'.ownBlock=v.ownBlock ∨ v'.ownBlock=some (w4.alloc (.cells cs 36)).heap.size) :
  Blk w' g 36 (exF 2 tZ nm 0 v sl0)∧PrSt C w g nm v' (acc.app x) c (w'.setCell ⟨g,8,none⟩ v'):=by
 have hg:=h.rd.hg
 have hgl:=h.rd.box.lt
 have hS:=(h.to k hm).ext ((Ext.refl w4).alloc (.cells cs 36))
 have ho:∀ q,v.ownBlock=some q → g + 1 ≤ q:=fun q hq=>(h.gw.own_lt hq).1
 have hgw:Gw (g + 1) 36 0 v' (acc.app x) w':=Gw.grown h1 h2 (hnv.ext ((Ext.refl w4).alloc _) fun _ hi _=>hi) (by omega) (fun _ hq=>(h.gw.own_lt hq).2) r1 r2 r3
 have hb:Blk w' g 36 (exF 2 tZ nm 0 v sl0):=(r2.block _ hS.rd.box.lt fun e=>by have:=ho _ e.symm; omega).trans hS.rd.box
 have hm1:Mv C w c w':=hS.rd.mv.grown r2 (fun q hq=>by have:=ho q hq; omega) hm
 have hr:Blk w' w.heap.size 36 zEx:=(r2.block _ hS.rd.res.lt fun e=>by have:=ho _ e.symm; omega).trans hS.rd.res
 have hR:Rd C w 36 zEx g (exF 2 tZ nm 0 v sl0) c w':=⟨hm1,hr,hg,hb⟩
 exact ⟨hb,hR.set_ hm 8 v',hgw.px ((Px.refl g w').setM 8 v') (by omega)⟩
theorem PrSt.fin {r:Option Rs} (h:PrSt C w g nm v acc b wr) (hm:C.m < w.heap.size) (hr:r=some (.ok (.ex 2 tZ nm 0 acc .nil .nil) b)):Out C w 0 r (.returned (.agg (exF 2 tZ nm 0 v sl0))) (wr.setRow w.heap.size (exF 2 tZ nm 0 v sl0)) :=
 have:=h.rd.hg
 h.rd.fin hm (nv_exF (h.gw.sl) (Sl.nil _ none 0 1)) (fun i hi=>by omega) hr
end
def moreA (L:List Tok) (n b:Nat):Prop:=¬ tx L b=⟨#[41]⟩ ∨ (0 < n∧tx L (b - 1)=⟨#[44]⟩)
instance (L:List Tok) (n b:Nat):Decidable (moreA L n b):=by unfold moreA; infer_instance
noncomputable def callF (nm:ByteArray) (x:Nd) (b:Nat):Option Rs:=some (.ok (.ex 2 tZ nm 0 x .nil .nil) b)
theorem prm_name {C:Cx} {a:Nat} {w:World} (h:PS C a w) (HE0:∀ b,a < b → EX C b) (HB0:∀ b,a < b → BL C b) (hk:¬ kd_ C.L a=1) (hk3:¬ kd_ C.L a=3) (h0:¬ tx C.L a=⟨#[116,114,117,101]⟩) (h1:¬ tx C.L a=⟨#[102,97,108,115,101]⟩) (h2:¬ tx C.L a=⟨#[40]⟩) (h3:¬ tx C.L a=⟨#[100,111]⟩) (hcm0:∀ b c x,a < b → gram C.L (.lvl 0) b=some (.ok x c) → b < c∧tx C.L (c - 1) ≠ ⟨#[44]⟩):Calls Tryz.prog 241 #[Pp C] w (Out C w 0 (gram C.L .prim a)):=by
 have HZ:Hid ((Tryz.prog.info? 36).map (·.size)=some 10):=by unfold Hid; kernel_rfl
 have hlt:=h.lt
 have R0:Hid (Rx C w 36 zEx a (w.alloc (.cells zEx 36))):=Rx.init h _ _
 have HE:=Lib.hid HE0
 have HB:=Lib.hid HB0
 have E:Hid (gram C.L .prim a=nam C.L a (if tx C.L (a + 1)=⟨#[40]⟩ then (if tx C.L (a + 2)=⟨#[41]⟩ then some (.ok (.ex 2 tZ (tx C.L a) 0 .nil .nil .nil) (a + 3)) else thn (gram C.L (.args .nil) (a + 2)) (callF (tx C.L a))) else some (.ok (.ex 1 tZ (tx C.L a) 0 .nil .nil .nil) (a + 1)))):=by
  unfold Hid
  rw [gram_eq]
  show primS C.L (gram C.L) a=_
  unfold primS
  rw [if_neg hk,if_neg h0,if_neg h1,if_neg h2,if_neg h3,if_neg (no_at hk3 (by decide)),if_neg (no_at hk3 (by decide)),if_neg (no_at hk3 (by decide)),if_neg (no_at hk3 (by decide)),if_neg (no_at hk3 (by decide))]
  rfl
 generalize gram C.L .prim a=r0 at E ⊢
 clear h HE0 HB0
 have hkb:(kd_ C.L a == 1)=false:=beq_eq_false_iff_ne.2 hk
 have hkc:(kd_ C.L a == 3)=false:=beq_eq_false_iff_ne.2 hk3
 have hcm:=Lib.hid hcm0
 have hlen:=C.len
 clear hcm0
 go_enter Tryz.func241,Tryz.ntmps241
 go_upto_if 49 with (first
  | (go_at_call 168; (with_reducible show Calls _ _ _ (World.alloc _ _) _); refine (kind_any R0.out.ps).mono ?_; rintro r w1 ⟨rfl,x1⟩; have R1:=Lib.hid (R0.out.ext x1))
  | (go_at_call 113; (with_reducible show Calls _ _ #[_,.string ⟨#[116,114,117,101]⟩] _ _); refine (next_any R1.out.ps ⟨#[116,114,117,101]⟩ (by decide)).mono ?_; rintro r w2 (⟨hq,rfl,m2⟩ | ⟨_,rfl,m2⟩); exact absurd hq h0; have R2:=Lib.hid (R1.out.to m2 hlt))
  | (go_at_call 113; (with_reducible show Calls _ _ #[_,.string ⟨#[102,97,108,115,101]⟩] _ _); refine (next_any R2.out.ps ⟨#[102,97,108,115,101]⟩ (by decide)).mono ?_; rintro r w3 (⟨hq,rfl,m3⟩ | ⟨_,rfl,m3⟩); exact absurd hq h1; have R3:=Lib.hid (R2.out.to m3 hlt))
  | (go_at_call 113; (with_reducible show Calls _ _ #[_,.string ⟨#[40]⟩] w3 _); refine (next_any R3.out.ps ⟨#[40]⟩ (by decide)).mono ?_; rintro r w4 (⟨hq,rfl,m4⟩ | ⟨_,rfl,m4⟩); exact absurd hq h2; have R4:=Lib.hid (R3.out.to m4 hlt))
  | (go_at_call 113; (with_reducible show Calls _ _ #[_,.string ⟨#[100,111]⟩] _ _); refine (next_any R4.out.ps ⟨#[100,111]⟩ (by decide)).mono ?_; rintro r w5 (⟨hq,rfl,m5⟩ | ⟨_,rfl,m5⟩); exact absurd hq h3; have R5:=Lib.hid (R4.out.to m5 hlt))
  | (go_at_call 168; refine (kind_any R5.out.ps).mono ?_; rintro r w6 ⟨rfl,x6⟩; have R6:=Lib.hid (R5.out.ext x6))
  | (go_at_call 114; refine (name_any R6.out.ps).mono ?_; rintro r w7 (⟨h7,rfl,m7⟩ | ⟨h7,rfl,m7⟩) <;> (have R7:=Lib.hid (R6.out.to m7 hlt)) <;> (have D7:=Lib.hid (Rd.init R7.out (exF 1 tZ (tx C.L a) 0 sl0 sl0))))
  | (go_at_call 113; (with_reducible show Calls _ _ #[_,.string ⟨#[40]⟩] (World.alloc _ _) _); refine (next_any D7.out.ps ⟨#[40]⟩ (by decide)).mono ?_; rintro r w8 (⟨h8,rfl,m8⟩ | ⟨h8,rfl,m8⟩) <;> (have D8:=Lib.hid (D7.out.to m8 hlt))))
 rotate_right
 ·exact And.intro rfl (fin_bad R7.out.mv (E.out.trans (if_neg (by rw [h7]; exact Bool.false_ne_true))))
 rotate_left
 ·go_wp2_with (first
   | ((with_reducible show wpList _ _ _ (Oper.mk (some 95) (.load 36 (.tmp 4)) _ _ _ _ :: _) _ _); refine wpList_ldb rfl _ _ rfl _ _ _ rfl D8.out.box _ Tryz.underlying36 rfl HZ.out ?_)
   | ((with_reducible show wpList _ _ _ (Oper.mk none (.store 36 (.tmp 2) _) _ _ _ _ :: _) _ _); refine wpList_store_row rfl _ _ _ rfl _ rfl _ zEx _ D8.out.res rfl rfl (exF_one rfl rfl) HZ.out ?_))
  refine bodyPost_ret (results_cell_row rfl _ _ w.heap.size _ _ (0,0) _ rfl (D8.out.res.row _) Tryz.underlying36 rfl HZ.out) rfl ?_
  exact D8.out.fin hlt (nv_exF (V:=vp (w.heap.size < ·) w8) (Sl.nil _ none 0 0) (Sl.nil _ none 0 1)) (fun i hi=>hi) (E.out.trans ((if_pos h7).trans (if_neg h8)))
 have E9:=Lib.hid (E.out.trans ((if_pos h7).trans (if_pos h8)))
 have hg0:=D8.out.hg
 have q0:w8.cell? ⟨w7.heap.size,0,none⟩=some (.int .i64 1):=D8.out.box.cell 0
 have qf:=D8.out.box.frozen
 go_wp2_with fail
 have P0:Hid (PrSt C w w7.heap.size (tx C.L a) sl0 .nil (a + 2) (w8.setCell ⟨w7.heap.size,0,none⟩ (.int .i64 2))):=⟨D8.out.set_ hlt 0 (.int .i64 2),Gw.nil _ _ _ _⟩
 generalize tx C.L a=nm at P0 E9 ⊢
 clear E hk hk3 h0 h1 h2 h3 hkb hkc R0 R1 R2 R3 R4 R5 R6 R7 D7 D8 q0 qf x1 x6 m2 m3 m4 m5 m7 m8
 generalize w7.heap.size=g at P0 hg0 ⊢
 go_loopg [] (C.L.length + 1 - (a + 2)) (fun n wr=>∃ acc b v,((moreA C.L acc.len b → r0=thn (gram C.L (.args acc) b) (callF nm))∧(¬ moreA C.L acc.len b → r0=some (.ok (.ex 2 tZ nm 0 acc .nil .nil) (b + 1))))∧a < b∧acc.len ≤ b∧C.L.length + 1 - b ≤ n∧PrSt C w g nm v acc b wr)
 case atStart =>
  refine ⟨.nil,a + 2,sl0,⟨fun hm=>?_,fun hm=>?_⟩,by omega,Nat.zero_le _,Nat.le_refl _,P0.out⟩
  ·have:¬ tx C.L (a + 2)=⟨#[41]⟩:=by
    rcases hm with h | h
    ·exact h
    ·exact absurd h.1 (by simp [Nd.len])
   exact E9.out.trans (if_neg this)
  ·have:tx C.L (a + 2)=⟨#[41]⟩:=Classical.byContradiction fun h=>hm (.inl h)
   exact E9.out.trans (if_pos this)
 case round =>
  clear P0 E9
  obtain ⟨acc,b,v,hG,hab,hln,hn,hp⟩:=hrel
  obtain ⟨Av,cv,rfl⟩:=hp.gw.shapeN
  have HG:=Lib.hid hG
  have P1:=Lib.hid (hp.ext (Ext.refl wr).drew)
  have hle:=hp.rd.mv.ps.le
  clear hG hp
  go_upto_region 18 with fail
  go_cut [78] from 51 to 92 (fun c wx=>c=.bool (decide (moreA C.L acc.len b))∧Hid (PrSt C w g nm (.slice Av acc.len cv) acc b wx))
  case first =>
   by_cases e1:tx C.L b=⟨#[41]⟩
   ·by_cases e2:0 < acc.len
    ·have hb1:b - 1 < C.L.length:=by have:=lt_tx e1 (by decide); omega
     have hww:IntKind.i64.wrap ((b:Int) - 1)=((b - 1:Nat):Int):=by rw [show (b:Int) - 1=((b - 1:Nat):Int) by omega]; exact IntWalk.i64_in _ (by omega)
     have e2i:(0:Int) < (acc.len:Int):=by omega
     have d8:wr.drew.cell? ⟨g,8,none⟩=some (.slice Av acc.len cv):=P1.out.rd.box.cell 8
     obtain ⟨hm0,d0,d1,hf0⟩:=P1.out.ps.facts
     obtain ⟨tb,tq,hA,htb,dt⟩:=P1.out.ps.tokAt hb1
     rw [hA] at d0
     have HA:=Lib.hid hA
     have hgl:=P1.out.rd.box.lt
     clear hA
     by_cases e3:tx C.L (b - 1)=⟨#[44]⟩
     ·rw [e3] at dt
      go_region_held3 (fun w'=>w'.cell? ⟨g,8,none⟩=some (.slice Av acc.len cv)∧w'.cell? ⟨C.m,0,none⟩=some (.slice (some ⟨tb,tq,none⟩) C.L.length C.cap)∧w'.cell? ⟨C.m,1,none⟩=some (.int .i64 b)∧w'.cell? ⟨tb,tq + (b - 1) * 3 + 2,none⟩=some (.string ⟨#[44]⟩)) (first | exact ⟨d8,d0,d1,dt⟩ | exact ⟨f8,c0,c1,ft⟩ | go_keep) (first
       | (go_at_call 119; refine (peek_any (w:=wr.drew) P1.out.ps).mono ?_; rw [e1]; rintro r w5 ⟨rfl,x5⟩; have P5:=Lib.hid (P1.out.ext x5); have f8:w5.cell? ⟨g,8,none⟩=some (.slice Av acc.len cv):=P5.out.rd.box.cell 8; obtain ⟨hm5,c0,c1,hf5⟩:=P5.out.ps.facts; rw [HA.out] at c0; have ft:w5.cell? ⟨tb,tq + (b - 1) * 3 + 2,none⟩=some (.string ⟨#[44]⟩):=(x5.cell (p:=⟨tb,tq + (b - 1) * 3 + 2,none⟩) htb).trans dt))
      go_wp2_with fail
      go_meet
      exact ⟨by rw [decide_eq_true (show moreA C.L acc.len b from .inr ⟨e2,e3⟩)],P5⟩
     ·have n3:=bs_nl [44] e3
      have HE3:=Lib.hid e3
      generalize tx C.L (b - 1)=sx at dt n3
      go_region_held3 (fun w'=>w'.cell? ⟨g,8,none⟩=some (.slice Av acc.len cv)∧w'.cell? ⟨C.m,0,none⟩=some (.slice (some ⟨tb,tq,none⟩) C.L.length C.cap)∧w'.cell? ⟨C.m,1,none⟩=some (.int .i64 b)∧w'.cell? ⟨tb,tq + (b - 1) * 3 + 2,none⟩=some (.string sx)) (first | exact ⟨d8,d0,d1,dt⟩ | exact ⟨f8,c0,c1,ft⟩ | go_keep) (first
       | (go_at_call 119; refine (peek_any (w:=wr.drew) P1.out.ps).mono ?_; rw [e1]; rintro r w5 ⟨rfl,x5⟩; have P5:=Lib.hid (P1.out.ext x5); have f8:w5.cell? ⟨g,8,none⟩=some (.slice Av acc.len cv):=P5.out.rd.box.cell 8; obtain ⟨hm5,c0,c1,hf5⟩:=P5.out.ps.facts; rw [HA.out] at c0; have ft:w5.cell? ⟨tb,tq + (b - 1) * 3 + 2,none⟩=some (.string sx):=(x5.cell (p:=⟨tb,tq + (b - 1) * 3 + 2,none⟩) htb).trans dt))
      go_wp2_with fail
      go_meet
      exact ⟨by rw [decide_eq_false (show ¬ moreA C.L acc.len b from fun h=>h.elim (fun h=>h e1) (fun h=>HE3.out h.2))],P5⟩
    ·have e2i:¬ (0:Int) < (acc.len:Int):=by omega
     have e2c:decide (0 < acc.len)=false:=decide_eq_false e2
     have e2b:decide ((0:Int) < (acc.len:Int))=false:=decide_eq_false e2i
     have d8:wr.drew.cell? ⟨g,8,none⟩=some (.slice Av acc.len cv):=by
      have q:wr.drew.cell? ⟨g,8,none⟩=some (.slice Av acc.len cv):=P1.out.rd.box.cell 8
      exact q
     refine rg_begin #[false,false,false,false,false,false,false,false,false,false,false,false,false,false,false,false,false,false,false,false,false,false,false,false,false,false,false,false] rfl (by kernel_rfl) (fun _ _ _ _ _ h=>h) (fun HQ=>?_)
     (refine ta 0 51 rfl HQ ?_; try simp only [putL,List.set])
     (refine ta 1 52 rfl HQ ?_; try simp only [putL,List.set])
     (refine ta 2 53 rfl HQ ?_; try simp only [putL,List.set])
     refine tf_call 3 rfl rfl (by go_simp) (peek_any (w:=wr.drew) P1.out.ps) ?_ ?_ ?_
     ·rintro rv w5 ⟨e,x5⟩
      cases e
      rw [e1]
      have P5:=Lib.hid (P1.out.ext x5)
      have f8:w5.cell? ⟨g,8,none⟩=some (.slice Av acc.len cv):=P5.out.rd.box.cell 8
      show wpAny _ _ _ _ _ _ (Act.put _ (some 54) _) _
      simp only [putL,List.set]
      (refine ta 4 55 rfl HQ ?_; try simp only [putL,List.set])
      (refine ta 5 56 rfl HQ ?_; try simp only [putL,List.set])
      (refine ta 6 57 rfl HQ ?_; try simp only [putL,List.set])
      (refine tf_val 7 58 rfl (exec_ld1 rfl rfl f8 Tryz.underlying33 rfl) ?_; simp only [putL,List.set])
      (refine ta 8 59 rfl HQ ?_; try simp only [putL,List.set])
      (refine ta 9 60 rfl HQ ?_; try simp only [putL,List.set])
      (refine ta 10 61 rfl HQ ?_; try simp only [putL,List.set])
      (refine ts 11 62 rfl HQ ?_; simp only [putL,List.set])
      (refine ts 12 63 rfl HQ ?_; simp only [putL,List.set])
      (refine ts 13 64 rfl HQ ?_; simp only [putL,List.set])
      (refine ts 14 65 rfl HQ ?_; simp only [putL,List.set])
      (refine ts 15 66 rfl HQ ?_; simp only [putL,List.set])
      (refine ts 16 67 rfl HQ ?_; simp only [putL,List.set])
      (refine ts 17 68 rfl HQ ?_; simp only [putL,List.set])
      (refine ts 18 69 rfl HQ ?_; simp only [putL,List.set])
      (refine ts 19 70 rfl HQ ?_; simp only [putL,List.set])
      (refine ts 20 71 rfl HQ ?_; simp only [putL,List.set])
      (refine ts 21 72 rfl HQ ?_; simp only [putL,List.set])
      (refine ts 22 73 rfl HQ ?_; simp only [putL,List.set])
      (refine ts 23 74 rfl HQ ?_; simp only [putL,List.set])
      (refine ts 24 75 rfl HQ ?_; simp only [putL,List.set])
      (refine ts 25 76 rfl HQ ?_; simp only [putL,List.set])
      (refine ta 26 77 rfl HQ ?_; try simp only [putL,List.set])
      (refine ta 27 78 rfl HQ ?_; try simp only [putL,List.set])
      refine wp_end ?_
      go_wp2_with fail
      go_meet
      exact ⟨by rw [decide_eq_false (show ¬ moreA C.L acc.len b from fun h=>h.elim (fun h=>h e1) (fun h=>e2 h.1))],P5⟩
     ·rintro c w5 ⟨e,_⟩; cases e
     ·rintro w5 ⟨e,_⟩; cases e
   ·have n1:=bs_nl [41] e1
    refine rg_begin #[false,false,false,false,false,false,false,false,false,false,false,false,false,false,false,false,false,false,false,false,false,false,false,false,false,false,false,false] rfl (by kernel_rfl) (fun _ _ _ _ _ h=>h) (fun HQ=>?_)
    (refine ta 0 51 rfl HQ ?_; try simp only [putL,List.set])
    (refine ta 1 52 rfl HQ ?_; try simp only [putL,List.set])
    (refine ta 2 53 rfl HQ ?_; try simp only [putL,List.set])
    refine tf_call 3 rfl rfl (by go_simp) (peek_any (w:=wr.drew) P1.out.ps) ?_ ?_ ?_
    ·rintro rv w5 ⟨e,x5⟩
     cases e
     have P5:=Lib.hid (P1.out.ext x5)
     show wpAny _ _ _ _ _ _ (Act.put _ (some 54) _) _
     simp only [putL,List.set]
     (refine ta 4 55 rfl HQ ?_; try simp only [putL,List.set])
     (refine ta 5 56 rfl HQ ?_; try simp only [putL,List.set])
     (refine ts 6 57 rfl HQ ?_; simp only [putL,List.set])
     (refine ts 7 58 rfl HQ ?_; simp only [putL,List.set])
     (refine ts 8 59 rfl HQ ?_; simp only [putL,List.set])
     (refine ts 9 60 rfl HQ ?_; simp only [putL,List.set])
     (refine ts 10 61 rfl HQ ?_; simp only [putL,List.set])
     (refine ts 11 62 rfl HQ ?_; simp only [putL,List.set])
     (refine ts 12 63 rfl HQ ?_; simp only [putL,List.set])
     (refine ts 13 64 rfl HQ ?_; simp only [putL,List.set])
     (refine ts 14 65 rfl HQ ?_; simp only [putL,List.set])
     (refine ts 15 66 rfl HQ ?_; simp only [putL,List.set])
     (refine ts 16 67 rfl HQ ?_; simp only [putL,List.set])
     (refine ts 17 68 rfl HQ ?_; simp only [putL,List.set])
     (refine ts 18 69 rfl HQ ?_; simp only [putL,List.set])
     (refine ts 19 70 rfl HQ ?_; simp only [putL,List.set])
     (refine ts 20 71 rfl HQ ?_; simp only [putL,List.set])
     (refine ts 21 72 rfl HQ ?_; simp only [putL,List.set])
     (refine ts 22 73 rfl HQ ?_; simp only [putL,List.set])
     (refine ts 23 74 rfl HQ ?_; simp only [putL,List.set])
     (refine ts 24 75 rfl HQ ?_; simp only [putL,List.set])
     (refine ts 25 76 rfl HQ ?_; simp only [putL,List.set])
     (refine ts 26 77 rfl HQ ?_; simp only [putL,List.set])
     (refine ta 27 78 rfl HQ ?_; try simp only [putL,List.set])
     refine wp_end ?_
     go_wp2_with fail
     go_meet
     exact ⟨by rw [decide_eq_true (show moreA C.L acc.len b from .inl e1)],P5⟩
    ·rintro c w5 ⟨e,_⟩; cases e
    ·rintro w5 ⟨e,_⟩; cases e
  case rest =>
   clear P1
   obtain ⟨rfl,S⟩:=hcut
   by_cases hm:moreA C.L acc.len b
   ·rw [decide_eq_true hm]
    have E1:=Lib.hid (HG.out.1 hm)
    clear HG
    have S1:=Lib.hid (S.out.ext (Ext.refl wc).drew)
    go_upto_region 19 with fail
    refine rg_begin #[false,false,false,false,false,false,false,false] rfl (by kernel_rfl) (fun _ _ _ _ _ h=>h) (fun HQ=>?_)
    (refine ta 0 79 rfl HQ ?_; try simp only [putL,List.set])
    (refine ta 2 81 rfl HQ ?_; try simp only [putL,List.set])
    refine th 1 80 2 [3,4,5,6,7] [⟨some 82,_,_,_,_,_⟩,⟨some 83,_,_,_,_,_⟩,⟨some 84,_,_,_,_,_⟩,⟨some 85,_,_,_,_,_⟩,⟨none,_,_,_,_,_⟩] (fun w'=>w'.cell? ⟨g,8,none⟩=some (.slice Av acc.len cv)) rfl rfl rfl HQ (S1.out.rd.box.cell 8) (fun w' hB=>exec_ld1 rfl rfl hB Tryz.underlying33 rfl) ?_
    simp only [putL,List.set]
    refine ly_call rfl (by go_simp) (HE.out b hab _ S1.out.ps) ?_ ?_ ?_
    ·rintro rv w6 (⟨x,c,cs,hg6,e,hnv,m6⟩ | ⟨c,hg6,e,m6⟩)
     ·cases e
      have G6:=Lib.hid (S1.out.to m6 hlt)
      refine ⟨G6.out.rd.box.cell 8,?_⟩
      simp only [putL,List.set]
      refine ly_op rfl (wp_bsE _ rfl cs rfl hnv.size ?_)
      refine ⟨(G6.out.ext ((Ext.refl w6).alloc (.cells cs 36))).rd.box.cell 8,?_⟩
      show wpList _ _ _ _ _ _
      simp only [putL,List.set]
      obtain ⟨xs,o1,o2⟩:=G6.out.gw.ext ((Ext.refl w6).alloc (.cells cs 36))
      have hz6:=G6.out.rd.box.lt
      refine wpList_app1 Tryz.underlying33 infoEx rfl (by decide) (by decide) rfl _ _ rfl (g + 1) _ acc.len xs rfl o1 _ _ cs rfl (Blk.new w6 _ cs) hnv.size hnv.one (by omega) (by simp only [World.size_alloc]; omega) ?_
      intro v' w' r1 r2 r3
      have hadd:=S1.out.put m6 hlt hnv o1 o2 r1 r2 r3
      have hb':=hadd.1
      have F3:=Lib.hid hadd.2
      obtain ⟨A',n',c',rfl⟩:=hadd.2.gw.shape
      have qf:=hb'.frozen
      have q8:w'.cell? ⟨g,8,none⟩=some (.slice Av acc.len cv):=hb'.cell 8
      have hac:(acc.app x).len=acc.len + 1:=by rw [app_len,hnv.2]
      obtain ⟨hbc,hcm1⟩:=hcm.out b c x hab hg6.out
      have E2:Hid (r0=thn (if tx C.L c=⟨#[41]⟩ then some (.ok (acc.app x) (c + 1)) else wnt C.L c ⟨#[44]⟩ (gram C.L (.args (acc.app x)) (c + 1))) (callF nm)):=E1.out.trans (by rw [gram_eq]; simp only [stepG,hg6.out]; rfl)
      clear hadd hb' o1 o2 r1 r2 r3 hnv G6 S1 S E1 hcm m6 hg6
      simp only [putL,List.set]
      by_cases e1:tx C.L c=⟨#[41]⟩
      ·go_wp2_with (first
        | (go_at_call 119; refine (peek_any F3.out.ps).mono ?_; rw [e1]; rintro r w7 ⟨rfl,x7⟩; have F4:=Lib.hid (F3.out.ext x7)))
       have hno:¬ moreA C.L (acc.app x).len c:=fun h=>h.elim (fun h=>h e1) (fun h=>hcm1 h.2)
       go_roundg (gk - 1)
       case measure=>omega
       case rel=>exact ⟨acc.app x,c,_,⟨fun h=>absurd h hno,fun _=>E2.out.trans (by rw [if_pos e1]; rfl)⟩,by omega,by omega,by omega,F4.out⟩
      ·have n1:=bs_nl [41] e1
       go_wp2_with (first
        | (go_at_call 119; refine (peek_any F3.out.ps).mono ?_; rintro r w7 ⟨rfl,x7⟩; have F4:=Lib.hid (F3.out.ext x7))
        | (go_at_call 115; refine (want_any F4.out.ps ⟨#[44]⟩ (by decide)).mono ?_; rintro r w8 (⟨h8',rfl,m8⟩ | ⟨h8',rfl,m8⟩) <;> (have F5:=Lib.hid (F4.out.to m8 hlt))))
       ·have hye:moreA C.L (acc.app x).len (c + 1):=.inr ⟨by omega,by rw [Nat.add_sub_cancel]; exact h8'⟩
        go_roundg (gk - 1)
        case measure=>omega
        case rel=>exact ⟨acc.app x,c + 1,_,⟨fun _=>E2.out.trans (by rw [if_neg e1]; exact congrArg (fun p=>thn p (callF nm)) (if_pos h8')),fun h=>absurd hye h⟩,by omega,by omega,by omega,F5.out⟩
       ·exact And.intro rfl (fin_bad F5.out.rd.mv (E2.out.trans (by rw [if_neg e1]; exact congrArg (fun p=>thn p (callF nm)) (if_neg h8'))))
     ·cases e
    ·rintro c w6 (⟨x,c',cs,hg6,e,hnv,m6⟩ | ⟨c',hg6,e,m6⟩)
     ·cases e
     ·cases e
      exact And.intro rfl (fin_bad (S1.out.to m6 hlt).rd.mv (E1.out.trans (by rw [gram_eq]; simp only [stepG,hg6.out]; rfl)))
    ·rintro w6 (⟨x,c',cs,hg6,e,hnv,m6⟩ | ⟨c',hg6,e,m6⟩) <;> cases e
   ·rw [decide_eq_false hm]
    have E1:=Lib.hid (HG.out.2 hm)
    have e1:tx C.L b=⟨#[41]⟩:=Classical.byContradiction fun h=>hm (.inl h)
    clear HG
    go_wp2_with (first
     | (go_at_call 115; refine (want_any S.out.ps ⟨#[41]⟩ (by decide)).mono ?_; rintro r w6 (⟨_,rfl,m6⟩ | ⟨hq,rfl,m6⟩); rotate_left; exact absurd e1 hq; have F2:=Lib.hid (S.out.to m6 hlt))
     | ((with_reducible show wpList _ _ _ (Oper.mk (some 95) (.load 36 (.tmp 4)) _ _ _ _ :: _) _ _); refine wpList_ldb rfl _ _ rfl _ _ _ rfl F2.out.rd.box _ Tryz.underlying36 rfl HZ.out ?_)
     | ((with_reducible show wpList _ _ _ (Oper.mk none (.store 36 (.tmp 2) _) _ _ _ _ :: _) _ _); refine wpList_store_row rfl _ _ _ rfl _ rfl _ zEx _ F2.out.rd.res rfl rfl (exF_one rfl rfl) HZ.out ?_))
    refine bodyPost_ret (results_cell_row rfl _ _ w.heap.size _ _ (0,0) _ rfl (F2.out.rd.res.row _) Tryz.underlying36 rfl HZ.out) rfl ?_
    exact F2.out.fin hlt E1.out
end Go.Proofs.YtmmnhbhnjiajhaaGreatDoor.c
