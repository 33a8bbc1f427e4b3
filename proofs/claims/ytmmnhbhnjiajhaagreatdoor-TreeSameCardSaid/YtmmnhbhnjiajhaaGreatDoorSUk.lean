/- if and while. -/
import Derived.Test.YtmmnhbhnjiajhaaGreatDoorSUj
namespace Go.Proofs.YtmmnhbhnjiajhaaGreatDoor.c
open Go.RowKit
set_option linter.unusedVariables false
set_option maxRecDepth 100000
set_option maxHeartbeats 3200000
set_option linter.unusedSimpArgs false
structure IfSt (C:Cx) (w:World) (g:Nat) (op:Int) (va v:Value) (x acc:Nd) (b:Nat) (wr:World):Prop where
 mv:Mv C w b wr
 res:Blk wr w.heap.size 44 zSt
 hg:w.heap.size < g
 box:Blk wr g 44 (stC op ⟨#[]⟩ tZ va v sl0)
 cn:Sl (vp (fun i=>w.heap.size < i∧i < g) wr) va x 0
 gw:Gw (g + 1) 34 2 v acc wr
theorem Gw.bs1 {p:Nat → Prop} {w:World} {v:Value} {z:Nd} {lo:Nat} {A:Option Addr} {n d:Nat} (hv:v=.slice A n d) (hs:Sl (vp p w) v z 1) (hp:∀ i,p i → lo ≤ i) (hl:lo ≤ w.heap.size) :
  Gw lo 34 2 (.slice (some ⟨w.heap.size,0,none⟩) 1 1) (.bl z .nil) (w.alloc (.cells #[.slice A n d] 34)):=by
 subst hv
 exact ⟨[.slice A n d],⟨rfl,.inr ⟨w.heap.size,1,#[.slice A n d],rfl,hl,heap_alloc_new w _,Nat.le_refl _,by decide,rfl,rfl⟩⟩,
  ⟨rfl,.slice A n d,[],rfl,hs.mono (vp_le fun i hi hj=>⟨⟨hp i hi,by intro e; have e2:w.heap.size=i:=Option.some.inj e; omega⟩,((Ext.refl w).alloc _).out.block i hj⟩),rfl⟩⟩
section
variable {C:Cx} {w wr w2 w4 w':World} {b c g:Nat} {op:Int} {va v v' vb:Value} {x acc z:Nd} {xs:List Value} {A:Option Addr} {n d:Nat} {p:Nat → Prop} {r:Option Rs}
theorem IfSt.to (h:IfSt C w g op va v x acc b wr) (k:Mv C wr c w2) (hm:C.m < w.heap.size):IfSt C w g op va v x acc c w2 :=
 have:=h.hg
 ⟨h.mv.trans k,h.res.px k.px (by omega),h.hg,h.box.px k.px (by omega),h.cn.px k.px fun i hi _=>⟨by omega,hi⟩,h.gw.px k.px (by omega)⟩
theorem IfSt.ext (h:IfSt C w g op va v x acc b wr) (k:Ext wr w2):IfSt C w g op va v x acc b w2 :=
 ⟨h.mv.to k,h.res.ext k,h.hg,h.box.ext k,h.cn.ext k fun i hi _=>hi,h.gw.ext k⟩
theorem IfSt.init (h:Rx C w 44 zSt b w2) (op:Int) (hs:Sl (vp p w2) va x 0) (hp:∀ i,p i → w.heap.size < i):IfSt C w w2.heap.size op va sl0 x .nil b (w2.alloc (.cells (stC op ⟨#[]⟩ tZ va sl0 sl0) 44)) :=
 ⟨h.mv.to ((Ext.refl w2).alloc _),h.res.alloc _,h.lt,Blk.new _ _ _,hs.ext ((Ext.refl w2).alloc _) fun i hi hj=>⟨hp i hi,hj⟩,Gw.nil _ _ _ _⟩
theorem IfSt.fill (h:IfSt C w g op va v x acc b w2) (hm:C.m < w.heap.size) (hv:v'=.slice A n d) (hs:Sl (vp p w2) v' z 1) (hp:∀ i,p i → g < i) :
  IfSt C w g op va (.slice (some ⟨w2.heap.size,0,none⟩) 1 1) x (.bl z .nil) b ((w2.alloc (.cells #[.slice A n d] 34)).setCell ⟨g,8,none⟩ (.slice (some ⟨w2.heap.size,0,none⟩) 1 1)) ∧
  (w2.alloc (.cells #[.slice A n d] 34)).cell? ⟨g,8,none⟩=some v∧∀ i,(w2.alloc (.cells #[.slice A n d] 34)).frozen? ⟨g,i,none⟩=false:=by
 have hg:=h.hg
 have hgl:=h.box.lt
 have x1:=(Ext.refl w2).alloc (.cells #[.slice A n d] 34)
 have r:=h.ext x1
 have px:=(Px.refl g (w2.alloc (.cells #[.slice A n d] 34))).setM 8 (.slice (some ⟨w2.heap.size,0,none⟩) 1 1)
 refine ⟨⟨⟨⟨r.mv.ps.ext.setCell (p:=⟨g,8,none⟩) (by have:=C.hm; show C.w0.heap.size ≤ g; omega) _,r.mv.ps.le,r.mv.ps.blk.far (p:=⟨g,8,none⟩) (by show C.m ≠ g; omega) _⟩,r.mv.px.set_ (p:=⟨g,8,none⟩) (by show w.heap.size ≤ g; omega) _⟩,r.res.far (p:=⟨g,8,none⟩) (by show w.heap.size ≠ g; omega) _,hg,r.box.set_ 8 _,?_,?_⟩,r.box.cell 8,r.box.frozen⟩
 ·exact r.cn.px px fun i hi _=>⟨by omega,hi⟩
 ·exact (Gw.bs1 hv hs (fun i hi=>by have:=hp i hi; omega) (by omega)).px px (by omega)
theorem IfSt.put (h:IfSt C w g op va v x acc b w2) (k:Mv C w2 c w4) (hm:C.m < w.heap.size) (hv:vb=.slice A n d) (hs:Sl (vp (w2.heap.size ≤ ·) w4) vb z 1)
  (h1:(w4.alloc (.cells #[.slice A n d] 34)).ownsRow (g + 1) 34 (szK 2) v acc.len xs) (h2:Elems (vp (fun i=>g + 1 ≤ i∧v.ownBlock ≠ some i) (w4.alloc (.cells #[.slice A n d] 34))) acc 2 xs)
  (r1:w'.ownsRow (g + 1) 34 (szK 2) v' (acc.len + 1) (xs ++ #[.slice A n d].toList)) (r2:(w4.alloc (.cells #[.slice A n d] 34)).grownBy w' v.ownBlock) (r3:v'.ownBlock=v.ownBlock ∨ v'.ownBlock=some (w4.alloc (.cells #[.slice A n d] 34)).heap.size) :
  Blk w' g 44 (stC op ⟨#[]⟩ tZ va v sl0)∧IfSt C w g op va v' x (acc.app (.bl z .nil)) c (w'.setCell ⟨g,8,none⟩ v'):=by
 subst hv
 have hg:=h.hg
 have hgl:=h.box.lt
 have hS:=(h.to k hm).ext ((Ext.refl w4).alloc (.cells #[.slice A n d] 34))
 have ho:∀ q,v.ownBlock=some q → g + 1 ≤ q:=fun q hq=>(h.gw.own_lt hq).1
 have hn:Nv (vp (w2.heap.size ≤ ·) w4) 2 (.bl z .nil) #[.slice A n d]:=⟨⟨rfl,.slice A n d,[],rfl,hs,rfl⟩,rfl⟩
 have hgw:Gw (g + 1) 34 2 v' (acc.app (.bl z .nil)) w':=Gw.grown h1 h2 (hn.ext ((Ext.refl w4).alloc _) fun _ hi _=>hi) (by omega) (fun _ hq=>(h.gw.own_lt hq).2) r1 r2 r3
 have hb:Blk w' g 44 (stC op ⟨#[]⟩ tZ va v sl0):=(r2.block _ hS.box.lt fun e=>by have:=ho _ e.symm; omega).trans hS.box
 have hm1:Mv C w c w':=hS.mv.grown r2 (fun q hq=>by have:=ho q hq; omega) hm
 have hr:Blk w' w.heap.size 44 zSt:=(r2.block _ hS.res.lt fun e=>by have:=ho _ e.symm; omega).trans hS.res
 refine ⟨hb,⟨⟨hm1.ps.ext.setCell (p:=⟨g,8,none⟩) (by have:=C.hm; show C.w0.heap.size ≤ g; omega) _,hm1.ps.le,hm1.ps.blk.far (p:=⟨g,8,none⟩) (by show C.m ≠ g; omega) _⟩,hm1.px.set_ (p:=⟨g,8,none⟩) (by show w.heap.size ≤ g; omega) _⟩,hr.far (p:=⟨g,8,none⟩) (by show w.heap.size ≠ g; omega) _,hg,hb.set_ 8 v',?_,hgw.px ((Px.refl g w').setM 8 v') (by omega)⟩
 exact (hS.cn.mono (vp_le (q:=fun i=>w.heap.size < i∧i < g) (w':=w') fun i hi hl=>⟨hi,r2.block i hl fun e=>by have:=ho _ e.symm; omega⟩)).px ((Px.refl g w').setM 8 v') fun i hi _=>⟨by omega,hi⟩
theorem IfSt.fin (h:IfSt C w g op va v x acc b wr) (hm:C.m < w.heap.size) (hr:r=some (.ok (stN op ⟨#[]⟩ tZ x acc .nil) b)):Out C w 1 r (.returned (.agg (stC op ⟨#[]⟩ tZ va v sl0))) (wr.setRow w.heap.size (stC op ⟨#[]⟩ tZ va v sl0)) :=
 have:=h.hg
 fin_row (p:=(w.heap.size < ·)) h.mv (Nat.le_refl _) hm (nv_st (h.cn.mono (vp_le fun i hi _=>⟨hi.1,rfl⟩)) (h.gw.sl.mono (vp_le fun i hi _=>⟨by omega,rfl⟩)) (Sl.nil _ none 0 3)) (fun i hi _=>⟨by omega,by omega⟩) hr
end
theorem par_le {C:Cx} {a:Nat} (x:Nd) (b:Nat) (h:(parS C.L (gram C.L) a fun x b=>some (.ok x b))=some (.ok x b)):a ≤ b:=(Po.wnt (r:=_) fun _=>Po.thn (gram_le _ _) fun y c hc=>Po.wnt fun _=>Po.ok (φ:=fun _ d=>a ≤ d) (by omega)) _ _ h
theorem stm_while {C:Cx} {a:Nat} {w:World} (h:PS C a w) (HE0:∀ b,a < b → EX C b) (HB0:∀ b,a ≤ b → BL C b) (hx:tx C.L a=⟨#[119,104,105,108,101]⟩):Calls Tryz.prog 174 #[Pp C] w (Out C w 1 (gram C.L .stm a)):=by
 have HZ:Hid ((Tryz.prog.info? 44).map (·.size)=some 10):=by unfold Hid; kernel_rfl
 have hlt:=h.lt
 have R0:Hid (Rx C w 44 zSt a (w.alloc (.cells zSt 44))):=Rx.init h _ _
 have HE:=Lib.hid HE0
 have HB:=Lib.hid HB0
 have hab:a < C.L.length:=lt_tx hx (by decide)
 have hww:=wrap1 hab
 have E:Hid (gram C.L .stm a=parS C.L (gram C.L) (a + 1) fun x b=>thn (gram C.L .blk b) fun y c=>some (.ok (stN 7 ⟨#[]⟩ tZ x (.bl y .nil) .nil) c)):=by
  unfold Hid
  rw [gram_eq]
  show stmS C.L (gram C.L) a=_
  unfold stmS
  rw [if_neg (nw hx (by decide:(⟨#[119,104,105,108,101]⟩:ByteArray) ≠ ⟨#[118,97,114]⟩)),if_neg (nw hx (by decide:(⟨#[119,104,105,108,101]⟩:ByteArray) ≠ ⟨#[99,111,110,115,116]⟩)),if_neg (nw hx (by decide:(⟨#[119,104,105,108,101]⟩:ByteArray) ≠ ⟨#[95]⟩)),if_neg (nw hx (by decide:(⟨#[119,104,105,108,101]⟩:ByteArray) ≠ ⟨#[114,101,116,117,114,110]⟩)),if_neg (nw hx (by decide:(⟨#[119,104,105,108,101]⟩:ByteArray) ≠ ⟨#[103,105,118,101]⟩)),if_neg (nw hx (by decide:(⟨#[119,104,105,108,101]⟩:ByteArray) ≠ ⟨#[105,102]⟩)),if_pos hx]
 generalize gram C.L .stm a=r0 at E ⊢
 clear h HE0 HB0
 go_enter Tryz.func174,Tryz.ntmps174
 go_wp2_with (first
  | (go_at_call 119; refine (peek_any R0.out.ps).mono ?_; rw [hx]; rintro r w1 ⟨rfl,x1⟩; have R1:=Lib.hid (R0.out.ext x1); obtain ⟨hm1,c0,c1,hf1⟩:=R1.out.ps.facts; have R2:=Lib.hid (R1.out.to (R1.out.ps.step hab) hlt))
  | (go_at_call 219; refine (condition_any R2.out.ps (HE.out (a + 1 + 1) (by omega))).mono ?_; rintro r w3 (⟨x,b,va,hg,rfl,hsl,m3⟩ | ⟨b,hg,rfl,m3⟩) <;> (have R3:=Lib.hid (R2.out.to m3 hlt)) <;> (have hz1:=R2.out.lt) <;> (try obtain ⟨Aa,na,ca,rfl,_⟩:=Sl.shape hsl))
  | (go_at_call 122
     have S3:=Lib.hid (IfSt.init R3.out 7 hsl (fun i hi=>Nat.lt_of_lt_of_le hz1 hi))
     have E3:=Lib.hid (E.out.trans (parS_thn.trans (thn_ok hg.out)))
     refine (HB.out b (by have:=par_le _ _ hg.out; omega) _ S3.out.mv.ps).mono ?_
     rintro r w4 (⟨z,d,vb,hgz,rfl,hsb,m4⟩ | ⟨d,hgz,rfl,m4⟩) <;> (have S4:=Lib.hid (S3.out.to m4 hlt)) <;> (have hz4:=S3.out.box.lt))
  | ((with_reducible show wpList _ _ _ (Oper.mk (some 92) (.buildSlice _ _ _) _ _ _ _ :: _) _ _)
     obtain ⟨Ab,nb,cb,hv,_⟩:=Sl.shape hsb
     refine wpList_plain rfl fun _ hK=>wp_bsB _ rfl Ab nb cb hv (hK _ _ ?_)
     have ff:_∧_∧_:=S4.out.fill hlt hv hsb (fun i hi=>Nat.lt_of_lt_of_le hz4 hi)
     obtain ⟨f1,f3,f4⟩:=ff
     have F1:=Lib.hid f1
     clear f1)
  | ((with_reducible show wpList _ _ _ (Oper.mk (some 94) (.load 44 (.tmp 5)) _ _ _ _ :: _) _ _); refine wpList_ldb rfl _ _ rfl _ _ _ rfl F1.out.box _ Tryz.underlying44 rfl HZ.out ?_)
  | ((with_reducible show wpList _ _ _ (Oper.mk none (.store 44 (.tmp 2) _) _ _ _ _ :: _) _ _); refine wpList_store_row rfl _ _ _ rfl _ rfl _ zSt _ F1.out.res rfl rfl (stC_one rfl rfl rfl) HZ.out ?_))
 ·refine bodyPost_ret (results_cell_row rfl _ _ w.heap.size _ _ (0,0) _ rfl (F1.out.res.row _) Tryz.underlying44 rfl HZ.out) rfl ?_
  exact F1.out.fin hlt (E3.out.trans (thn_ok hgz.out))
 ·exact And.intro rfl (fin_bad S4.out.mv (E3.out.trans (thn_bad hgz.out)))
 ·exact And.intro rfl (fin_bad R3.out.mv (E.out.trans (parS_thn.trans (thn_bad hg.out))))
theorem stm_if {C:Cx} {a:Nat} {w:World} (h:PS C a w) (HE0:∀ b,a < b → EX C b) (HB0:∀ b,a ≤ b → BL C b) (hx:tx C.L a=⟨#[105,102]⟩):Calls Tryz.prog 174 #[Pp C] w (Out C w 1 (gram C.L .stm a)):=by
 have HZ:Hid ((Tryz.prog.info? 44).map (·.size)=some 10):=by unfold Hid; kernel_rfl
 have hlt:=h.lt
 have R0:Hid (Rx C w 44 zSt a (w.alloc (.cells zSt 44))):=Rx.init h _ _
 have HE:=Lib.hid HE0
 have HB:=Lib.hid HB0
 have hab:a < C.L.length:=lt_tx hx (by decide)
 have hww:=wrap1 hab
 have E:Hid (gram C.L .stm a=parS C.L (gram C.L) (a + 1) fun x b=>thn (gram C.L .blk b) fun y c=>if tx C.L c=⟨#[101,108,115,101]⟩ then thn (gram C.L .blk (c + 1)) fun z d=>some (.ok (stN 6 ⟨#[]⟩ tZ x (.bl y (.bl z .nil)) .nil) d) else some (.ok (stN 6 ⟨#[]⟩ tZ x (.bl y .nil) .nil) c)):=by
  unfold Hid
  rw [gram_eq]
  show stmS C.L (gram C.L) a=_
  unfold stmS
  rw [if_neg (nw hx (by decide:(⟨#[105,102]⟩:ByteArray) ≠ ⟨#[118,97,114]⟩)),if_neg (nw hx (by decide:(⟨#[105,102]⟩:ByteArray) ≠ ⟨#[99,111,110,115,116]⟩)),if_neg (nw hx (by decide:(⟨#[105,102]⟩:ByteArray) ≠ ⟨#[95]⟩)),if_neg (nw hx (by decide:(⟨#[105,102]⟩:ByteArray) ≠ ⟨#[114,101,116,117,114,110]⟩)),if_neg (nw hx (by decide:(⟨#[105,102]⟩:ByteArray) ≠ ⟨#[103,105,118,101]⟩)),if_pos hx]
 generalize gram C.L .stm a=r0 at E ⊢
 clear h HE0 HB0
 go_enter Tryz.func174,Tryz.ntmps174
 go_upto_region 19 with (first
  | (go_at_call 119; refine (peek_any R0.out.ps).mono ?_; rw [hx]; rintro r w1 ⟨rfl,x1⟩; have R1:=Lib.hid (R0.out.ext x1); obtain ⟨hm1,c0,c1,hf1⟩:=R1.out.ps.facts; have R2:=Lib.hid (R1.out.to (R1.out.ps.step hab) hlt))
  | (go_at_call 219; refine (condition_any R2.out.ps (HE.out (a + 1 + 1) (by omega))).mono ?_; rintro r w3 (⟨x,b,va,hg,rfl,hsl,m3⟩ | ⟨b,hg,rfl,m3⟩) <;> (have R3:=Lib.hid (R2.out.to m3 hlt)) <;> (have hz1:=R2.out.lt) <;> (try obtain ⟨Aa,na,ca,rfl,_⟩:=Sl.shape hsl))
  | (go_at_call 122
     have S3:=Lib.hid (IfSt.init R3.out 6 hsl (fun i hi=>Nat.lt_of_lt_of_le hz1 hi))
     have E3:=Lib.hid (E.out.trans (parS_thn.trans (thn_ok hg.out)))
     refine (HB.out b (by have:=par_le _ _ hg.out; omega) _ S3.out.mv.ps).mono ?_
     rintro r w4 (⟨z,d,vb,hgz,rfl,hsb,m4⟩ | ⟨d,hgz,rfl,m4⟩) <;> (have S4:=Lib.hid (S3.out.to m4 hlt)) <;> (have hz4:=S3.out.box.lt))
  | ((with_reducible show wpList _ _ _ (Oper.mk (some 64) (.buildSlice _ _ _) _ _ _ _ :: _) _ _)
     obtain ⟨Ab,nb,cb,hv,_⟩:=Sl.shape hsb
     refine wpList_plain rfl fun _ hK=>wp_bsB _ rfl Ab nb cb hv (hK _ _ ?_)
     have ff:_∧_∧_:=S4.out.fill hlt hv hsb (fun i hi=>Nat.lt_of_lt_of_le hz4 hi)
     obtain ⟨f1,f3,f4⟩:=ff
     have F1:=Lib.hid f1
     clear f1)
  | (go_at_call 113
     have E4:=Lib.hid (E3.out.trans (thn_ok hgz.out))
     refine (next_any F1.out.mv.ps ⟨#[101,108,115,101]⟩ (by decide)).mono ?_
     rintro r w5 (⟨h5,rfl,m5⟩ | ⟨h5,rfl,m5⟩) <;> (have F2:=Lib.hid (F1.out.to m5 hlt)))
  | ((with_reducible show wpList _ _ _ (Oper.mk (some 75) (.load 44 (.tmp 4)) _ _ _ _ :: _) _ _); refine wpList_ldb rfl _ _ rfl _ _ _ rfl F2.out.box _ Tryz.underlying44 rfl HZ.out ?_)
  | ((with_reducible show wpList _ _ _ (Oper.mk none (.store 44 (.tmp 2) _) _ _ _ _ :: _) _ _); refine wpList_store_row rfl _ _ _ rfl _ rfl _ zSt _ F2.out.res rfl rfl (stC_one rfl rfl rfl) HZ.out ?_))
 rotate_left
 ·refine bodyPost_ret (results_cell_row rfl _ _ w.heap.size _ _ (0,0) _ rfl (F2.out.res.row _) Tryz.underlying44 rfl HZ.out) rfl ?_
  exact F2.out.fin hlt (E4.out.trans (if_neg h5))
 ·exact And.intro rfl (fin_bad S4.out.mv (E3.out.trans (thn_bad hgz.out)))
 ·exact And.intro rfl (fin_bad R3.out.mv (E.out.trans (parS_thn.trans (thn_bad hg.out))))
 have hbd:b < d:=blk_lt _ _ _ hgz.out
 have hpb:=par_le _ _ hg.out
 have E5:Hid (r0=thn (gram C.L .blk (d + 1)) fun z2 e=>some (.ok (stN 6 ⟨#[]⟩ tZ x (.bl z (.bl z2 .nil)) .nil) e)):=E4.out.trans (if_pos h5)
 clear F1 f3 f4 S4 S3 R3 R2 R1 R0 E3 E4 hsb hsl m3 m4 m5
 generalize w3.heap.size=g at F2 ⊢
 have G2:=Lib.hid (F2.out.ext (Ext.refl w5).drew)
 have hg0:=F2.out.hg
 clear F2
 refine rg_begin #[false,false,false,false,false,false,false,false] rfl (by kernel_rfl) (fun _ _ _ _ _ h=>h) (fun HQ=>?_)
 (refine ta 0 68 rfl HQ ?_; try simp only [putL,List.set])
 (refine ta 2 70 rfl HQ ?_; try simp only [putL,List.set])
 refine th 1 69 2 [3,4,5,6,7] [⟨some 71,_,_,_,_,_⟩,⟨some 72,_,_,_,_,_⟩,⟨some 73,_,_,_,_,_⟩,⟨some 74,_,_,_,_,_⟩,⟨none,_,_,_,_,_⟩] (fun w'=>w'.cell? ⟨g,8,none⟩=some (.slice (some ⟨w4.heap.size,0,none⟩) 1 1)) rfl rfl rfl HQ (G2.out.box.cell 8) (fun w' hB=>exec_ld1 rfl rfl hB Tryz.underlying41 rfl) ?_
 simp only [putL,List.set]
 refine ly_call rfl (by go_simp) (HB.out (d + 1) (by omega) _ G2.out.mv.ps) ?_ ?_ ?_
 ·rintro rv w6 (⟨z2,e6,vb2,hg6,e,hsb,m6⟩ | ⟨e6,hg6,e,m6⟩)
  ·cases e
   have G6:=Lib.hid (G2.out.to m6 hlt)
   refine ⟨G6.out.box.cell 8,?_⟩
   simp only [putL,List.set]
   obtain ⟨Ab2,nb2,cb2,hv2,_⟩:=Sl.shape hsb
   refine ly_op rfl (wp_bsB _ rfl Ab2 nb2 cb2 hv2 ?_)
   refine ⟨(G6.out.ext ((Ext.refl w6).alloc (.cells #[.slice Ab2 nb2 cb2] 34))).box.cell 8,?_⟩
   show wpList _ _ _ _ _ _
   simp only [putL,List.set]
   obtain ⟨xs,o1,o2⟩:=G6.out.gw.ext ((Ext.refl w6).alloc (.cells #[.slice Ab2 nb2 cb2] 34))
   have hz6:=G6.out.box.lt
   refine wpList_app1 Tryz.underlying41 infoBl rfl (by decide) (by decide) rfl _ _ rfl (g + 1) _ 1 xs rfl o1 _ _ _ rfl (Blk.new w6 _ _) rfl (by intro u hu; simp at hu; subst hu; rfl) (by omega) (by simp only [World.size_alloc]; omega) ?_
   intro v' w' r1 r2 r3
   have hadd:=G2.out.put m6 hlt hv2 hsb o1 o2 r1 r2 r3
   have hb':=hadd.1
   have F3:=Lib.hid hadd.2
   obtain ⟨A',n',c',rfl⟩:=hadd.2.gw.shape
   have qf:=hb'.frozen
   have q8:w'.cell? ⟨g,8,none⟩=some (.slice (some ⟨w4.heap.size,0,none⟩) 1 1):=hb'.cell 8
   clear hadd hb' o1 o2 r1 r2 r3 hsb G6
   simp only [putL,List.set]
   go_wp2_with (first
    | ((with_reducible show wpList _ _ _ (Oper.mk (some 75) (.load 44 (.tmp 4)) _ _ _ _ :: _) _ _); refine wpList_ldb rfl _ _ rfl _ _ _ rfl F3.out.box _ Tryz.underlying44 rfl HZ.out ?_)
    | ((with_reducible show wpList _ _ _ (Oper.mk none (.store 44 (.tmp 2) _) _ _ _ _ :: _) _ _); refine wpList_store_row rfl _ _ _ rfl _ rfl _ zSt _ F3.out.res rfl rfl (stC_one rfl rfl rfl) HZ.out ?_))
   refine bodyPost_ret (results_cell_row rfl _ _ w.heap.size _ _ (0,0) _ rfl (F3.out.res.row _) Tryz.underlying44 rfl HZ.out) rfl ?_
   exact F3.out.fin hlt (E5.out.trans (thn_ok hg6.out))
  ·cases e
 ·rintro c w6 (⟨z2,e6,vb2,hg6,e,hsb,m6⟩ | ⟨e6,hg6,e,m6⟩)
  ·cases e
  ·cases e
   exact And.intro rfl (fin_bad (G2.out.to m6 hlt).mv (E5.out.trans (thn_bad hg6.out)))
 ·rintro w6 (⟨z2,e6,vb2,hg6,e,hsb,m6⟩ | ⟨e6,hg6,e,m6⟩) <;> cases e
end Go.Proofs.YtmmnhbhnjiajhaaGreatDoor.c
