/- The words with an at sign. -/
import Derived.Test.YtmmnhbhnjiajhaaGreatDoorSUl
namespace Go.Proofs.YtmmnhbhnjiajhaaGreatDoor.c
open Go.RowKit
set_option linter.unusedVariables false
set_option maxRecDepth 100000
set_option maxHeartbeats 3200000
set_option linter.unusedSimpArgs false
structure Rd (C:Cx) (w:World) (t:TypeId) (zv:Array Value) (g:Nat) (cs:Array Value) (b:Nat) (wr:World):Prop where
 mv:Mv C w b wr
 res:Blk wr w.heap.size t zv
 hg:w.heap.size < g
 box:Blk wr g t cs
section
variable {C:Cx} {w wr w2:World} {b c g:Nat} {t:TypeId} {cs zv:Array Value}
theorem Rd.init (h:Rx C w t zv b wr) (cs:Array Value):Rd C w t zv wr.heap.size cs b (wr.alloc (.cells cs t)):=⟨h.mv.to ((Ext.refl wr).alloc _),h.res.alloc _,h.lt,Blk.new _ _ _⟩
theorem Rd.to (h:Rd C w t zv g cs b wr) (k:Mv C wr c w2) (hm:C.m < w.heap.size):Rd C w t zv g cs c w2 :=
 have:=h.hg
 ⟨h.mv.trans k,h.res.px k.px (by omega),h.hg,h.box.px k.px (by omega)⟩
theorem Rd.ext (h:Rd C w t zv g cs b wr) (x:Ext wr w2):Rd C w t zv g cs b w2:=⟨h.mv.to x,h.res.ext x,h.hg,h.box.ext x⟩
theorem Rd.ps (h:Rd C w t zv g cs b wr):PS C b wr:=h.mv.ps
theorem Rd.lt (h:Rd C w t zv g cs b wr):g < wr.heap.size:=h.box.lt
theorem Rd.set_ (h:Rd C w t zv g cs b wr) (hm:C.m < w.heap.size) (i:Nat) (u:Value):Rd C w t zv g (cs.setIfInBounds i u) b (wr.setCell ⟨g,i,none⟩ u) :=
 have:=h.hg
 ⟨⟨⟨h.mv.ps.ext.setCell (p:=⟨g,i,none⟩) (by have:=C.hm; show C.w0.heap.size ≤ g; omega) _,h.mv.ps.le,h.mv.ps.blk.far (p:=⟨g,i,none⟩) (by show C.m ≠ g; omega) _⟩,h.mv.px.set_ (p:=⟨g,i,none⟩) (by show w.heap.size ≤ g; omega) u⟩,h.res.far (p:=⟨g,i,none⟩) (by show w.heap.size ≠ g; omega) _,h.hg,h.box.set_ i u⟩
theorem Rd.fin {p:Nat → Prop} {k:Nat} {x:Nd} {r:Option Rs} {ds:Array Value} (R:Rd C w t zv g cs b w2) (hm:C.m < w.heap.size) (hn:Nv (vp p w2) k x ds) (hp:∀ i,p i → w.heap.size < i) (hr:r=some (.ok x b)):Out C w k r (.returned (.agg ds)) (w2.setRow w.heap.size ds) :=
 fin_row R.mv (Nat.le_refl _) hm hn (fun i hi _=>⟨by have:=hp i hi; omega,by have:=hp i hi; omega⟩) hr
end
def exF (op:Int) (ty:Ty) (nm:ByteArray) (n:Int) (a b:Value):Array Value:=#[.int .i64 op,.int .i64 ty.base,.int .i64 ty.bits,.string ty.name,.bool ty.opt,.bool ty.err,.string nm,.int .i64 n,a,b]
theorem exF_one {op n:Int} {nm:ByteArray} {ty:Ty} {a b:Value} (ha:a.oneCell'=true) (hb:b.oneCell'=true):∀ u ∈ (exF op ty nm n a b).toList,u.oneCell'=true:=by
 simp only [exF,List.mem_cons,List.not_mem_nil,or_false]
 rintro u (rfl | rfl | rfl | rfl | rfl | rfl | rfl | rfl | rfl | rfl) <;> first | rfl | assumption
theorem nv_exF {V:Vw} {op n:Int} {nm:ByteArray} {ty:Ty} {x y:Nd} {a b:Value} (h1:Sl V a x 0) (h2:Sl V b y 1):Nv V 0 (.ex op ty nm n x y .nil) (exF op ty nm n a b) :=
 ⟨⟨rfl,a,b,[],rfl,h1,h2,rfl⟩,rfl⟩
section
variable {C:Cx} {w wr:World} {b g:Nat} {t:TypeId} {zv:Array Value} {op n:Int} {ty:Ty} {nm:ByteArray} {va vb:Value}
theorem Rd.typ (h:Rd C w t zv g (exF op ty nm n va vb) b wr) (hm:C.m < w.heap.size) (ty:Ty) :
  Rd C w t zv g (exF op ty nm n va vb) b (((((wr.setCell ⟨g,1,none⟩ (.int .i64 ty.base)).setCell ⟨g,2,none⟩ (.int .i64 ty.bits)).setCell ⟨g,3,none⟩ (.string ty.name)).setCell ⟨g,4,none⟩ (.bool ty.opt)).setCell ⟨g,5,none⟩ (.bool ty.err)) :=
 ((((h.set_ hm 1 (.int .i64 ty.base)).set_ hm 2 (.int .i64 ty.bits)).set_ hm 3 (.string ty.name)).set_ hm 4 (.bool ty.opt)).set_ hm 5 (.bool ty.err)
theorem Rd.five (h:Rd C w t zv g (exF op ty nm n va vb) b wr):(∀ i,wr.frozen? ⟨g,i,none⟩=false)∧wr.cell? ⟨g,1,none⟩=some (.int .i64 ty.base)∧wr.cell? ⟨g,2,none⟩=some (.int .i64 ty.bits)∧wr.cell? ⟨g,3,none⟩=some (.string ty.name)∧wr.cell? ⟨g,4,none⟩=some (.bool ty.opt)∧wr.cell? ⟨g,5,none⟩=some (.bool ty.err) :=
 ⟨h.box.frozen,h.box.cell 1,h.box.cell 2,h.box.cell 3,h.box.cell 4,h.box.cell 5⟩
end
section
variable {C:Cx} {w w2:World} {b g:Nat} {zv ds:Array Value} {op n:Int} {ty:Ty} {nm:ByteArray} {p:Nat → Prop} {x:Nd} {t:TypeId}
theorem Rd.arg (h:Rd C w t zv g (exF op ty nm n sl0 sl0) b w2) (hm:C.m < w.heap.size) (hn:Nv (vp p w2) 0 x ds) (hp:∀ i,p i → g < i) :
  Rd C w t zv g (exF op ty nm n (.slice (some ⟨w2.heap.size,0,none⟩) 1 1) sl0) b ((w2.alloc (.cells ds 36)).setCell ⟨g,8,none⟩ (.slice (some ⟨w2.heap.size,0,none⟩) 1 1)) ∧
  Nv (vp (g < ·) ((w2.alloc (.cells ds 36)).setCell ⟨g,8,none⟩ (.slice (some ⟨w2.heap.size,0,none⟩) 1 1))) 0 (.ex op ty nm n x .nil .nil) (exF op ty nm n (.slice (some ⟨w2.heap.size,0,none⟩) 1 1) sl0) ∧
  (w2.alloc (.cells ds 36)).cell? ⟨g,8,none⟩=some sl0∧∀ i,(w2.alloc (.cells ds 36)).frozen? ⟨g,i,none⟩=false:=by
 have x1:=(Ext.refl w2).alloc (.cells ds 36)
 have r:=h.ext x1
 refine ⟨r.set_ hm 8 _,nv_exF ?_ (Sl.nil _ none 0 1),r.box.cell 8,r.box.frozen⟩
 exact ((hn.ext x1 (q:=(g < ·)) fun i hi _=>hp i hi).sl (Blk.new _ _ _) h.lt).px ((Px.refl g _).setM 8 _) fun i hi _=>⟨by omega,hi⟩
end
def bwB:List ByteArray:=[⟨#[64,99,97,115,116]⟩,⟨#[64,119,114,97,112]⟩,⟨#[64,110,117,108,108]⟩,⟨#[64,116,121,112,101]⟩,⟨#[64,115,111,109,101]⟩]
theorem index_any {w:World} (s:ByteArray) (k:Int) (hk:Lib.idxOfS bwB s=k) (g:Nat) (h:Blk w g 9 #[.string ⟨#[64,99,97,115,116]⟩,.string ⟨#[64,119,114,97,112]⟩,.string ⟨#[64,110,117,108,108]⟩,.string ⟨#[64,116,121,112,101]⟩,.string ⟨#[64,115,111,109,101]⟩]):Calls Tryz.prog 227 #[.slice (some ⟨g,0,none⟩) 5 5,.string s] w fun e w'=>e=.returned (.int .i64 k)∧w'=w:=by
 refine (Tryz.slices_Index_string g 0 5 5 bwB s w (by decide) (by decide) (fun j hj=>?_)).mono ?_
 ·rw [Nat.zero_add,h.cell j]
  have:j < 5:=hj
  match j,this with
  | 0,_ | 1,_ | 2,_ | 3,_ | 4,_=>rfl
 ·rintro e w2 ⟨rfl,rfl⟩
  exact ⟨by rw [← hk]; rfl,rfl⟩
noncomputable def bltS (C:Cx) (a:Nat):Option Rs :=
 if tx C.L a=⟨#[64,99,97,115,116]⟩ then builtinS C.L (gram C.L) (a + 1) 26 false true
 else if tx C.L a=⟨#[64,119,114,97,112]⟩ then builtinS C.L (gram C.L) (a + 1) 27 false true
 else if tx C.L a=⟨#[64,110,117,108,108]⟩ then builtinS C.L (gram C.L) (a + 1) 28 true false
 else if tx C.L a=⟨#[64,116,121,112,101]⟩ then builtinS C.L (gram C.L) (a + 1) 34 true false
 else if tx C.L a=⟨#[64,115,111,109,101]⟩ then parS C.L (gram C.L) (a + 1) fun x b=>some (.ok (exN 29 x) b)
 else some (.bad a)
theorem blt_cast {C:Cx} {a:Nat} {w:World} (h:PS C a w) (HE0:∀ b,a < b → EX C b) (hx:tx C.L a=⟨#[64,99,97,115,116]⟩):Calls Tryz.prog 260 #[Pp C] w (Out C w 0 (bltS C a)):=by
 have HZ:Hid ((Tryz.prog.info? 36).map (·.size)=some 10):=by unfold Hid; kernel_rfl
 have hlt:=h.lt
 have R0:Hid (Rx C w 36 zEx a (w.alloc (.cells zEx 36))):=Rx.init h _ _
 have HE:=Lib.hid HE0
 have hab:a < C.L.length:=lt_tx hx (by decide)
 have hww:=wrap1 hab
 have E:Hid (bltS C a=builtinS C.L (gram C.L) (a + 1) 26 false true):=by
  unfold Hid bltS
  rw [if_pos hx]
 generalize bltS C a=r0 at E ⊢
 clear h HE0
 go_enter Tryz.func260,Tryz.ntmps260
 go_upto_region 8 with (first
  | (go_at_call 119; refine (peek_any R0.out.ps).mono ?_; rw [hx]; rintro r w1 ⟨rfl,x1⟩; have R1:=Lib.hid (R0.out.ext x1))
  | (go_at_call 227
     have R1a:=Lib.hid (R1.out.ext ((Ext.refl w1).alloc (.cells #[.string ⟨#[64,99,97,115,116]⟩,.string ⟨#[64,119,114,97,112]⟩,.string ⟨#[64,110,117,108,108]⟩,.string ⟨#[64,116,121,112,101]⟩,.string ⟨#[64,115,111,109,101]⟩] 9)))
     refine (index_any ⟨#[64,99,97,115,116]⟩ 0 (by decide +kernel) w1.heap.size (Blk.new w1 _ _)).mono ?_
     rintro r w2 ⟨rfl,rfl⟩
     obtain ⟨hm1,c0,c1,hf1⟩:=R1a.out.ps.facts
     have R2:=Lib.hid (R1a.out.to (R1a.out.ps.step hab) hlt))
  | (go_at_call 115; refine (want_any R2.out.ps ⟨#[40]⟩ (by decide)).mono ?_; rintro r w4 (⟨h4,rfl,m4⟩ | ⟨h4,rfl,m4⟩) <;> (have R4:=Lib.hid (R2.out.to m4 hlt))))
 rotate_left
 ·exact And.intro rfl (fin_bad R4.out.mv (E.out.trans (if_neg h4)))
 have E4:=Lib.hid (E.out.trans (if_pos h4))
 have D4:Hid (Rd C w 36 zEx (w4.heap.size + 1) (exF 26 tZ ⟨#[]⟩ 0 sl0 sl0) (a + 1 + 1) ((w4.alloc (.cells #[.int .i64 26,.int .i64 27,.int .i64 28,.int .i64 34,.int .i64 29] 3)).alloc (.cells (exF 26 tZ ⟨#[]⟩ 0 sl0 sl0) 36))):=by
  have q:=Rd.init (R4.out.ext ((Ext.refl w4).alloc (.cells #[.int .i64 26,.int .i64 27,.int .i64 28,.int .i64 34,.int .i64 29] 3))) (exF 26 tZ ⟨#[]⟩ 0 sl0 sl0)
  rw [size_alloc] at q
  exact q
 clear R4 R2 R1 R1a R0 m4 E x1 hm1 c0 c1 hf1
 generalize w4.heap.size + 1=g at D4 ⊢
 go_wp2_with (first
  | (go_at_call 116; refine (typ_cnt D4.out.ps).mono ?_; rintro r w5 (⟨ty,b5,ht,rfl,m5⟩ | ⟨b5,ht,rfl,m5⟩) <;> (have D5:=Lib.hid (D4.out.to m5 hlt)) <;> (obtain ⟨ff,f1,f2,f3,f4,f5⟩:=Rd.five D5.out))
  | ((with_reducible show Calls _ _ #[_,.string ⟨#[44]⟩] _ _)
     have D6:=Lib.hid (Rd.typ D5.out hlt ty)
     have E5:Hid (r0=wnt C.L b5 ⟨#[44]⟩ (thn (gram C.L (.lvl 0) (b5 + 1)) fun x c=>wnt C.L c ⟨#[41]⟩ (some (.ok (.ex 26 ty ⟨#[]⟩ 0 x .nil .nil) (c + 1))))):=E4.out.trans (by rw [ht.out]; rfl)
     refine (want_any D6.out.ps ⟨#[44]⟩ (by decide)).mono ?_
     rintro r w6 (⟨h6,rfl,m6⟩ | ⟨h6,rfl,m6⟩) <;> (have D7:=Lib.hid (D6.out.to m6 hlt)))
  | (go_at_call 118
     have hb5:=typS_lt ht.out
     refine (HE.out (b5 + 1) (by omega) _ D7.out.ps).mono ?_
     rintro r w8 (⟨x,c,cs,hg8,rfl,hnv,m8⟩ | ⟨c,hg8,rfl,m8⟩) <;> (have D8:=Lib.hid (D7.out.to m8 hlt)) <;> (have hz8:=D7.out.lt))
  | ((with_reducible show wpList _ _ _ (Oper.mk (some 49) (.buildSlice _ _ _) _ _ _ _ :: _) _ _)
     refine wpList_bsE rfl _ rfl cs rfl hnv.size ?_
     have ff:_∧_∧_∧_:=D8.out.arg hlt hnv (fun i hi=>Nat.lt_of_lt_of_le hz8 hi)
     obtain ⟨k1,k2,k3,k4⟩:=ff
     have D9:=Lib.hid k1
     have N9:=Lib.hid k2
     clear k1 k2)
  | ((with_reducible show Calls _ _ #[_,.string ⟨#[41]⟩] _ _)
     refine (want_any D9.out.ps ⟨#[41]⟩ (by decide)).mono ?_
     rintro r w10 (⟨h10,rfl,m10⟩ | ⟨h10,rfl,m10⟩) <;> (have D10:=Lib.hid (D9.out.to m10 hlt)))
  | ((with_reducible show wpList _ _ _ (Oper.mk (some 60) (.load 36 (.tmp 5)) _ _ _ _ :: _) _ _); refine wpList_ldb rfl _ _ rfl _ _ _ rfl D10.out.box _ Tryz.underlying36 rfl HZ.out ?_)
  | ((with_reducible show wpList _ _ _ (Oper.mk none (.store 36 (.tmp 2) _) _ _ _ _ :: _) _ _); refine wpList_store_row rfl _ _ _ rfl _ rfl _ zEx _ D10.out.res rfl rfl (exF_one rfl rfl) HZ.out ?_))
 ·refine bodyPost_ret (results_cell_row rfl _ _ w.heap.size _ _ (0,0) _ rfl (D10.out.res.row _) Tryz.underlying36 rfl HZ.out) rfl ?_
  have hg0:=D10.out.hg
  exact D10.out.fin hlt (N9.out.px m10.px (q:=(g < ·)) fun i hi _=>⟨by omega,hi⟩) (fun i hi=>by omega) (E5.out.trans ((if_pos h6).trans ((thn_ok hg8.out).trans (if_pos h10))))
 ·exact And.intro rfl (fin_bad D10.out.mv (E5.out.trans ((if_pos h6).trans ((thn_ok hg8.out).trans (if_neg h10)))))
 ·exact And.intro rfl (fin_bad D8.out.mv (E5.out.trans ((if_pos h6).trans (thn_bad hg8.out))))
 ·exact And.intro rfl (fin_bad D7.out.mv (E5.out.trans (if_neg h6)))
 ·exact And.intro rfl (fin_bad D5.out.mv (E4.out.trans (by rw [ht.out]; rfl)))
theorem blt_wrap {C:Cx} {a:Nat} {w:World} (h:PS C a w) (HE0:∀ b,a < b → EX C b) (hx:tx C.L a=⟨#[64,119,114,97,112]⟩):Calls Tryz.prog 260 #[Pp C] w (Out C w 0 (bltS C a)):=by
 have HZ:Hid ((Tryz.prog.info? 36).map (·.size)=some 10):=by unfold Hid; kernel_rfl
 have hlt:=h.lt
 have R0:Hid (Rx C w 36 zEx a (w.alloc (.cells zEx 36))):=Rx.init h _ _
 have HE:=Lib.hid HE0
 have hab:a < C.L.length:=lt_tx hx (by decide)
 have hww:=wrap1 hab
 have E:Hid (bltS C a=builtinS C.L (gram C.L) (a + 1) 27 false true):=by
  unfold Hid bltS
  rw [if_neg (nw hx (by decide:(⟨#[64,119,114,97,112]⟩:ByteArray) ≠ ⟨#[64,99,97,115,116]⟩)),if_pos hx]
 generalize bltS C a=r0 at E ⊢
 clear h HE0
 go_enter Tryz.func260,Tryz.ntmps260
 go_upto_region 8 with (first
  | (go_at_call 119; refine (peek_any R0.out.ps).mono ?_; rw [hx]; rintro r w1 ⟨rfl,x1⟩; have R1:=Lib.hid (R0.out.ext x1))
  | (go_at_call 227
     have R1a:=Lib.hid (R1.out.ext ((Ext.refl w1).alloc (.cells #[.string ⟨#[64,99,97,115,116]⟩,.string ⟨#[64,119,114,97,112]⟩,.string ⟨#[64,110,117,108,108]⟩,.string ⟨#[64,116,121,112,101]⟩,.string ⟨#[64,115,111,109,101]⟩] 9)))
     refine (index_any ⟨#[64,119,114,97,112]⟩ 1 (by decide +kernel) w1.heap.size (Blk.new w1 _ _)).mono ?_
     rintro r w2 ⟨rfl,rfl⟩
     obtain ⟨hm1,c0,c1,hf1⟩:=R1a.out.ps.facts
     have R2:=Lib.hid (R1a.out.to (R1a.out.ps.step hab) hlt))
  | (go_at_call 115; refine (want_any R2.out.ps ⟨#[40]⟩ (by decide)).mono ?_; rintro r w4 (⟨h4,rfl,m4⟩ | ⟨h4,rfl,m4⟩) <;> (have R4:=Lib.hid (R2.out.to m4 hlt))))
 rotate_left
 ·exact And.intro rfl (fin_bad R4.out.mv (E.out.trans (if_neg h4)))
 have E4:=Lib.hid (E.out.trans (if_pos h4))
 have D4:Hid (Rd C w 36 zEx (w4.heap.size + 1) (exF 27 tZ ⟨#[]⟩ 0 sl0 sl0) (a + 1 + 1) ((w4.alloc (.cells #[.int .i64 26,.int .i64 27,.int .i64 28,.int .i64 34,.int .i64 29] 3)).alloc (.cells (exF 27 tZ ⟨#[]⟩ 0 sl0 sl0) 36))):=by
  have q:=Rd.init (R4.out.ext ((Ext.refl w4).alloc (.cells #[.int .i64 26,.int .i64 27,.int .i64 28,.int .i64 34,.int .i64 29] 3))) (exF 27 tZ ⟨#[]⟩ 0 sl0 sl0)
  rw [size_alloc] at q
  exact q
 clear R4 R2 R1 R1a R0 m4 E x1 hm1 c0 c1 hf1
 generalize w4.heap.size + 1=g at D4 ⊢
 go_wp2_with (first
  | (go_at_call 116; refine (typ_cnt D4.out.ps).mono ?_; rintro r w5 (⟨ty,b5,ht,rfl,m5⟩ | ⟨b5,ht,rfl,m5⟩) <;> (have D5:=Lib.hid (D4.out.to m5 hlt)) <;> (obtain ⟨ff,f1,f2,f3,f4,f5⟩:=Rd.five D5.out))
  | ((with_reducible show Calls _ _ #[_,.string ⟨#[44]⟩] _ _)
     have D6:=Lib.hid (Rd.typ D5.out hlt ty)
     have E5:Hid (r0=wnt C.L b5 ⟨#[44]⟩ (thn (gram C.L (.lvl 0) (b5 + 1)) fun x c=>wnt C.L c ⟨#[41]⟩ (some (.ok (.ex 27 ty ⟨#[]⟩ 0 x .nil .nil) (c + 1))))):=E4.out.trans (by rw [ht.out]; rfl)
     refine (want_any D6.out.ps ⟨#[44]⟩ (by decide)).mono ?_
     rintro r w6 (⟨h6,rfl,m6⟩ | ⟨h6,rfl,m6⟩) <;> (have D7:=Lib.hid (D6.out.to m6 hlt)))
  | (go_at_call 118
     have hb5:=typS_lt ht.out
     refine (HE.out (b5 + 1) (by omega) _ D7.out.ps).mono ?_
     rintro r w8 (⟨x,c,cs,hg8,rfl,hnv,m8⟩ | ⟨c,hg8,rfl,m8⟩) <;> (have D8:=Lib.hid (D7.out.to m8 hlt)) <;> (have hz8:=D7.out.lt))
  | ((with_reducible show wpList _ _ _ (Oper.mk (some 49) (.buildSlice _ _ _) _ _ _ _ :: _) _ _)
     refine wpList_bsE rfl _ rfl cs rfl hnv.size ?_
     have ff:_∧_∧_∧_:=D8.out.arg hlt hnv (fun i hi=>Nat.lt_of_lt_of_le hz8 hi)
     obtain ⟨k1,k2,k3,k4⟩:=ff
     have D9:=Lib.hid k1
     have N9:=Lib.hid k2
     clear k1 k2)
  | ((with_reducible show Calls _ _ #[_,.string ⟨#[41]⟩] _ _)
     refine (want_any D9.out.ps ⟨#[41]⟩ (by decide)).mono ?_
     rintro r w10 (⟨h10,rfl,m10⟩ | ⟨h10,rfl,m10⟩) <;> (have D10:=Lib.hid (D9.out.to m10 hlt)))
  | ((with_reducible show wpList _ _ _ (Oper.mk (some 60) (.load 36 (.tmp 5)) _ _ _ _ :: _) _ _); refine wpList_ldb rfl _ _ rfl _ _ _ rfl D10.out.box _ Tryz.underlying36 rfl HZ.out ?_)
  | ((with_reducible show wpList _ _ _ (Oper.mk none (.store 36 (.tmp 2) _) _ _ _ _ :: _) _ _); refine wpList_store_row rfl _ _ _ rfl _ rfl _ zEx _ D10.out.res rfl rfl (exF_one rfl rfl) HZ.out ?_))
 ·refine bodyPost_ret (results_cell_row rfl _ _ w.heap.size _ _ (0,0) _ rfl (D10.out.res.row _) Tryz.underlying36 rfl HZ.out) rfl ?_
  have hg0:=D10.out.hg
  exact D10.out.fin hlt (N9.out.px m10.px (q:=(g < ·)) fun i hi _=>⟨by omega,hi⟩) (fun i hi=>by omega) (E5.out.trans ((if_pos h6).trans ((thn_ok hg8.out).trans (if_pos h10))))
 ·exact And.intro rfl (fin_bad D10.out.mv (E5.out.trans ((if_pos h6).trans ((thn_ok hg8.out).trans (if_neg h10)))))
 ·exact And.intro rfl (fin_bad D8.out.mv (E5.out.trans ((if_pos h6).trans (thn_bad hg8.out))))
 ·exact And.intro rfl (fin_bad D7.out.mv (E5.out.trans (if_neg h6)))
 ·exact And.intro rfl (fin_bad D5.out.mv (E4.out.trans (by rw [ht.out]; rfl)))
theorem blt_null {C:Cx} {a:Nat} {w:World} (h:PS C a w) (HE0:∀ b,a < b → EX C b) (hx:tx C.L a=⟨#[64,110,117,108,108]⟩):Calls Tryz.prog 260 #[Pp C] w (Out C w 0 (bltS C a)):=by
 have HZ:Hid ((Tryz.prog.info? 36).map (·.size)=some 10):=by unfold Hid; kernel_rfl
 have hlt:=h.lt
 have R0:Hid (Rx C w 36 zEx a (w.alloc (.cells zEx 36))):=Rx.init h _ _
 have HE:=Lib.hid HE0
 have hab:a < C.L.length:=lt_tx hx (by decide)
 have hww:=wrap1 hab
 have E:Hid (bltS C a=builtinS C.L (gram C.L) (a + 1) 28 true false):=by
  unfold Hid bltS
  rw [if_neg (nw hx (by decide:(⟨#[64,110,117,108,108]⟩:ByteArray) ≠ ⟨#[64,99,97,115,116]⟩)),if_neg (nw hx (by decide:(⟨#[64,110,117,108,108]⟩:ByteArray) ≠ ⟨#[64,119,114,97,112]⟩)),if_pos hx]
 generalize bltS C a=r0 at E ⊢
 clear h HE0
 go_enter Tryz.func260,Tryz.ntmps260
 go_upto_region 8 with (first
  | (go_at_call 119; refine (peek_any R0.out.ps).mono ?_; rw [hx]; rintro r w1 ⟨rfl,x1⟩; have R1:=Lib.hid (R0.out.ext x1))
  | (go_at_call 227
     have R1a:=Lib.hid (R1.out.ext ((Ext.refl w1).alloc (.cells #[.string ⟨#[64,99,97,115,116]⟩,.string ⟨#[64,119,114,97,112]⟩,.string ⟨#[64,110,117,108,108]⟩,.string ⟨#[64,116,121,112,101]⟩,.string ⟨#[64,115,111,109,101]⟩] 9)))
     refine (index_any ⟨#[64,110,117,108,108]⟩ 2 (by decide +kernel) w1.heap.size (Blk.new w1 _ _)).mono ?_
     rintro r w2 ⟨rfl,rfl⟩
     obtain ⟨hm1,c0,c1,hf1⟩:=R1a.out.ps.facts
     have R2:=Lib.hid (R1a.out.to (R1a.out.ps.step hab) hlt))
  | (go_at_call 115; refine (want_any R2.out.ps ⟨#[40]⟩ (by decide)).mono ?_; rintro r w4 (⟨h4,rfl,m4⟩ | ⟨h4,rfl,m4⟩) <;> (have R4:=Lib.hid (R2.out.to m4 hlt))))
 rotate_left
 ·exact And.intro rfl (fin_bad R4.out.mv (E.out.trans (if_neg h4)))
 have E4:=Lib.hid (E.out.trans (if_pos h4))
 have D4:Hid (Rd C w 36 zEx (w4.heap.size + 1) (exF 28 tZ ⟨#[]⟩ 0 sl0 sl0) (a + 1 + 1) ((w4.alloc (.cells #[.int .i64 26,.int .i64 27,.int .i64 28,.int .i64 34,.int .i64 29] 3)).alloc (.cells (exF 28 tZ ⟨#[]⟩ 0 sl0 sl0) 36))):=by
  have q:=Rd.init (R4.out.ext ((Ext.refl w4).alloc (.cells #[.int .i64 26,.int .i64 27,.int .i64 28,.int .i64 34,.int .i64 29] 3))) (exF 28 tZ ⟨#[]⟩ 0 sl0 sl0)
  rw [size_alloc] at q
  exact q
 clear R4 R2 R1 R1a R0 m4 E x1 hm1 c0 c1 hf1
 generalize w4.heap.size + 1=g at D4 ⊢
 go_wp2_with (first
  | (go_at_call 116; refine (typ_whl D4.out.ps).mono ?_; rintro r w5 (⟨ty,b5,ht,rfl,m5⟩ | ⟨b5,ht,rfl,m5⟩) <;> (have D5:=Lib.hid (D4.out.to m5 hlt)) <;> (obtain ⟨ff,f1,f2,f3,f4,f5⟩:=Rd.five D5.out))
  | ((with_reducible show Calls _ _ #[_,.string ⟨#[41]⟩] _ _)
     have D6:=Lib.hid (Rd.typ D5.out hlt ty)
     have E5:Hid (r0=wnt C.L b5 ⟨#[41]⟩ (some (.ok (.ex 28 ty ⟨#[]⟩ 0 .nil .nil .nil) (b5 + 1)))):=E4.out.trans (by rw [ht.out]; rfl)
     refine (want_any D6.out.ps ⟨#[41]⟩ (by decide)).mono ?_
     rintro r w10 (⟨h10,rfl,m10⟩ | ⟨h10,rfl,m10⟩) <;> (have D10:=Lib.hid (D6.out.to m10 hlt)))
  | ((with_reducible show wpList _ _ _ (Oper.mk (some 60) (.load 36 (.tmp 5)) _ _ _ _ :: _) _ _); refine wpList_ldb rfl _ _ rfl _ _ _ rfl D10.out.box _ Tryz.underlying36 rfl HZ.out ?_)
  | ((with_reducible show wpList _ _ _ (Oper.mk none (.store 36 (.tmp 2) _) _ _ _ _ :: _) _ _); refine wpList_store_row rfl _ _ _ rfl _ rfl _ zEx _ D10.out.res rfl rfl (exF_one rfl rfl) HZ.out ?_))
 ·refine bodyPost_ret (results_cell_row rfl _ _ w.heap.size _ _ (0,0) _ rfl (D10.out.res.row _) Tryz.underlying36 rfl HZ.out) rfl ?_
  exact D10.out.fin hlt (nv_exF (V:=vp (w.heap.size < ·) w10) (Sl.nil _ none 0 0) (Sl.nil _ none 0 1)) (fun i hi=>hi) (E5.out.trans (if_pos h10))
 ·exact And.intro rfl (fin_bad D10.out.mv (E5.out.trans (if_neg h10)))
 ·exact And.intro rfl (fin_bad D5.out.mv (E4.out.trans (by rw [ht.out]; rfl)))
theorem blt_type {C:Cx} {a:Nat} {w:World} (h:PS C a w) (HE0:∀ b,a < b → EX C b) (hx:tx C.L a=⟨#[64,116,121,112,101]⟩):Calls Tryz.prog 260 #[Pp C] w (Out C w 0 (bltS C a)):=by
 have HZ:Hid ((Tryz.prog.info? 36).map (·.size)=some 10):=by unfold Hid; kernel_rfl
 have hlt:=h.lt
 have R0:Hid (Rx C w 36 zEx a (w.alloc (.cells zEx 36))):=Rx.init h _ _
 have HE:=Lib.hid HE0
 have hab:a < C.L.length:=lt_tx hx (by decide)
 have hww:=wrap1 hab
 have E:Hid (bltS C a=builtinS C.L (gram C.L) (a + 1) 34 true false):=by
  unfold Hid bltS
  rw [if_neg (nw hx (by decide:(⟨#[64,116,121,112,101]⟩:ByteArray) ≠ ⟨#[64,99,97,115,116]⟩)),if_neg (nw hx (by decide:(⟨#[64,116,121,112,101]⟩:ByteArray) ≠ ⟨#[64,119,114,97,112]⟩)),if_neg (nw hx (by decide:(⟨#[64,116,121,112,101]⟩:ByteArray) ≠ ⟨#[64,110,117,108,108]⟩)),if_pos hx]
 generalize bltS C a=r0 at E ⊢
 clear h HE0
 go_enter Tryz.func260,Tryz.ntmps260
 go_upto_region 8 with (first
  | (go_at_call 119; refine (peek_any R0.out.ps).mono ?_; rw [hx]; rintro r w1 ⟨rfl,x1⟩; have R1:=Lib.hid (R0.out.ext x1))
  | (go_at_call 227
     have R1a:=Lib.hid (R1.out.ext ((Ext.refl w1).alloc (.cells #[.string ⟨#[64,99,97,115,116]⟩,.string ⟨#[64,119,114,97,112]⟩,.string ⟨#[64,110,117,108,108]⟩,.string ⟨#[64,116,121,112,101]⟩,.string ⟨#[64,115,111,109,101]⟩] 9)))
     refine (index_any ⟨#[64,116,121,112,101]⟩ 3 (by decide +kernel) w1.heap.size (Blk.new w1 _ _)).mono ?_
     rintro r w2 ⟨rfl,rfl⟩
     obtain ⟨hm1,c0,c1,hf1⟩:=R1a.out.ps.facts
     have R2:=Lib.hid (R1a.out.to (R1a.out.ps.step hab) hlt))
  | (go_at_call 115; refine (want_any R2.out.ps ⟨#[40]⟩ (by decide)).mono ?_; rintro r w4 (⟨h4,rfl,m4⟩ | ⟨h4,rfl,m4⟩) <;> (have R4:=Lib.hid (R2.out.to m4 hlt))))
 rotate_left
 ·exact And.intro rfl (fin_bad R4.out.mv (E.out.trans (if_neg h4)))
 have E4:=Lib.hid (E.out.trans (if_pos h4))
 have D4:Hid (Rd C w 36 zEx (w4.heap.size + 1) (exF 34 tZ ⟨#[]⟩ 0 sl0 sl0) (a + 1 + 1) ((w4.alloc (.cells #[.int .i64 26,.int .i64 27,.int .i64 28,.int .i64 34,.int .i64 29] 3)).alloc (.cells (exF 34 tZ ⟨#[]⟩ 0 sl0 sl0) 36))):=by
  have q:=Rd.init (R4.out.ext ((Ext.refl w4).alloc (.cells #[.int .i64 26,.int .i64 27,.int .i64 28,.int .i64 34,.int .i64 29] 3))) (exF 34 tZ ⟨#[]⟩ 0 sl0 sl0)
  rw [size_alloc] at q
  exact q
 clear R4 R2 R1 R1a R0 m4 E x1 hm1 c0 c1 hf1
 generalize w4.heap.size + 1=g at D4 ⊢
 go_wp2_with (first
  | (go_at_call 116; refine (typ_whl D4.out.ps).mono ?_; rintro r w5 (⟨ty,b5,ht,rfl,m5⟩ | ⟨b5,ht,rfl,m5⟩) <;> (have D5:=Lib.hid (D4.out.to m5 hlt)) <;> (obtain ⟨ff,f1,f2,f3,f4,f5⟩:=Rd.five D5.out))
  | ((with_reducible show Calls _ _ #[_,.string ⟨#[41]⟩] _ _)
     have D6:=Lib.hid (Rd.typ D5.out hlt ty)
     have E5:Hid (r0=wnt C.L b5 ⟨#[41]⟩ (some (.ok (.ex 34 ty ⟨#[]⟩ 0 .nil .nil .nil) (b5 + 1)))):=E4.out.trans (by rw [ht.out]; rfl)
     refine (want_any D6.out.ps ⟨#[41]⟩ (by decide)).mono ?_
     rintro r w10 (⟨h10,rfl,m10⟩ | ⟨h10,rfl,m10⟩) <;> (have D10:=Lib.hid (D6.out.to m10 hlt)))
  | ((with_reducible show wpList _ _ _ (Oper.mk (some 60) (.load 36 (.tmp 5)) _ _ _ _ :: _) _ _); refine wpList_ldb rfl _ _ rfl _ _ _ rfl D10.out.box _ Tryz.underlying36 rfl HZ.out ?_)
  | ((with_reducible show wpList _ _ _ (Oper.mk none (.store 36 (.tmp 2) _) _ _ _ _ :: _) _ _); refine wpList_store_row rfl _ _ _ rfl _ rfl _ zEx _ D10.out.res rfl rfl (exF_one rfl rfl) HZ.out ?_))
 ·refine bodyPost_ret (results_cell_row rfl _ _ w.heap.size _ _ (0,0) _ rfl (D10.out.res.row _) Tryz.underlying36 rfl HZ.out) rfl ?_
  exact D10.out.fin hlt (nv_exF (V:=vp (w.heap.size < ·) w10) (Sl.nil _ none 0 0) (Sl.nil _ none 0 1)) (fun i hi=>hi) (E5.out.trans (if_pos h10))
 ·exact And.intro rfl (fin_bad D10.out.mv (E5.out.trans (if_neg h10)))
 ·exact And.intro rfl (fin_bad D5.out.mv (E4.out.trans (by rw [ht.out]; rfl)))
theorem blt_some {C:Cx} {a:Nat} {w:World} (h:PS C a w) (HE0:∀ b,a < b → EX C b) (hx:tx C.L a=⟨#[64,115,111,109,101]⟩):Calls Tryz.prog 260 #[Pp C] w (Out C w 0 (bltS C a)):=by
 have HZ:Hid ((Tryz.prog.info? 36).map (·.size)=some 10):=by unfold Hid; kernel_rfl
 have hlt:=h.lt
 have R0:Hid (Rx C w 36 zEx a (w.alloc (.cells zEx 36))):=Rx.init h _ _
 have HE:=Lib.hid HE0
 have hab:a < C.L.length:=lt_tx hx (by decide)
 have hww:=wrap1 hab
 have E:Hid (bltS C a=parS C.L (gram C.L) (a + 1) fun x b=>some (.ok (exN 29 x) b)):=by
  unfold Hid bltS
  rw [if_neg (nw hx (by decide:(⟨#[64,115,111,109,101]⟩:ByteArray) ≠ ⟨#[64,99,97,115,116]⟩)),if_neg (nw hx (by decide:(⟨#[64,115,111,109,101]⟩:ByteArray) ≠ ⟨#[64,119,114,97,112]⟩)),if_neg (nw hx (by decide:(⟨#[64,115,111,109,101]⟩:ByteArray) ≠ ⟨#[64,110,117,108,108]⟩)),if_neg (nw hx (by decide:(⟨#[64,115,111,109,101]⟩:ByteArray) ≠ ⟨#[64,116,121,112,101]⟩)),if_pos hx]
 generalize bltS C a=r0 at E ⊢
 clear h HE0
 go_enter Tryz.func260,Tryz.ntmps260
 go_upto_region 8 with (first
  | (go_at_call 119; refine (peek_any R0.out.ps).mono ?_; rw [hx]; rintro r w1 ⟨rfl,x1⟩; have R1:=Lib.hid (R0.out.ext x1))
  | (go_at_call 227
     have R1a:=Lib.hid (R1.out.ext ((Ext.refl w1).alloc (.cells #[.string ⟨#[64,99,97,115,116]⟩,.string ⟨#[64,119,114,97,112]⟩,.string ⟨#[64,110,117,108,108]⟩,.string ⟨#[64,116,121,112,101]⟩,.string ⟨#[64,115,111,109,101]⟩] 9)))
     refine (index_any ⟨#[64,115,111,109,101]⟩ 4 (by decide +kernel) w1.heap.size (Blk.new w1 _ _)).mono ?_
     rintro r w2 ⟨rfl,rfl⟩
     obtain ⟨hm1,c0,c1,hf1⟩:=R1a.out.ps.facts
     have R2:=Lib.hid (R1a.out.to (R1a.out.ps.step hab) hlt))
  | (go_at_call 115; refine (want_any R2.out.ps ⟨#[40]⟩ (by decide)).mono ?_; rintro r w4 (⟨h4,rfl,m4⟩ | ⟨h4,rfl,m4⟩) <;> (have R4:=Lib.hid (R2.out.to m4 hlt))))
 rotate_left
 ·exact And.intro rfl (fin_bad R4.out.mv (E.out.trans (if_neg h4)))
 have E4:=Lib.hid (E.out.trans (if_pos h4))
 have D4:Hid (Rd C w 36 zEx (w4.heap.size + 1) (exF 29 tZ ⟨#[]⟩ 0 sl0 sl0) (a + 1 + 1) ((w4.alloc (.cells #[.int .i64 26,.int .i64 27,.int .i64 28,.int .i64 34,.int .i64 29] 3)).alloc (.cells (exF 29 tZ ⟨#[]⟩ 0 sl0 sl0) 36))):=by
  have q:=Rd.init (R4.out.ext ((Ext.refl w4).alloc (.cells #[.int .i64 26,.int .i64 27,.int .i64 28,.int .i64 34,.int .i64 29] 3))) (exF 29 tZ ⟨#[]⟩ 0 sl0 sl0)
  rw [size_alloc] at q
  exact q
 clear R4 R2 R1 R1a R0 m4 E x1 hm1 c0 c1 hf1
 generalize w4.heap.size + 1=g at D4 ⊢
 go_wp2_with (first
  | (go_at_call 118
     refine (HE.out (a + 1 + 1) (by omega) _ D4.out.ps).mono ?_
     rintro r w8 (⟨x,c,cs,hg8,rfl,hnv,m8⟩ | ⟨c,hg8,rfl,m8⟩) <;> (have D8:=Lib.hid (D4.out.to m8 hlt)) <;> (have hz8:=D4.out.lt))
  | ((with_reducible show wpList _ _ _ (Oper.mk (some 36) (.buildSlice _ _ _) _ _ _ _ :: _) _ _)
     refine wpList_bsE rfl _ rfl cs rfl hnv.size ?_
     have ff:_∧_∧_∧_:=D8.out.arg hlt hnv (fun i hi=>Nat.lt_of_lt_of_le hz8 hi)
     obtain ⟨k1,k2,k3,k4⟩:=ff
     have D9:=Lib.hid k1
     have N9:=Lib.hid k2
     clear k1 k2)
  | ((with_reducible show Calls _ _ #[_,.string ⟨#[41]⟩] _ _)
     refine (want_any D9.out.ps ⟨#[41]⟩ (by decide)).mono ?_
     rintro r w10 (⟨h10,rfl,m10⟩ | ⟨h10,rfl,m10⟩) <;> (have D10:=Lib.hid (D9.out.to m10 hlt)))
  | ((with_reducible show wpList _ _ _ (Oper.mk (some 60) (.load 36 (.tmp 5)) _ _ _ _ :: _) _ _); refine wpList_ldb rfl _ _ rfl _ _ _ rfl D10.out.box _ Tryz.underlying36 rfl HZ.out ?_)
  | ((with_reducible show wpList _ _ _ (Oper.mk none (.store 36 (.tmp 2) _) _ _ _ _ :: _) _ _); refine wpList_store_row rfl _ _ _ rfl _ rfl _ zEx _ D10.out.res rfl rfl (exF_one rfl rfl) HZ.out ?_))
 ·refine bodyPost_ret (results_cell_row rfl _ _ w.heap.size _ _ (0,0) _ rfl (D10.out.res.row _) Tryz.underlying36 rfl HZ.out) rfl ?_
  have hg0:=D10.out.hg
  exact D10.out.fin hlt (N9.out.px m10.px (q:=(g < ·)) fun i hi _=>⟨by omega,hi⟩) (fun i hi=>by omega) (E4.out.trans ((thn_ok hg8.out).trans (if_pos h10)))
 ·exact And.intro rfl (fin_bad D10.out.mv (E4.out.trans ((thn_ok hg8.out).trans (if_neg h10))))
 ·exact And.intro rfl (fin_bad D8.out.mv (E4.out.trans (thn_bad hg8.out)))
theorem idx_none {s:ByteArray} (h0:s ≠ ⟨#[64,99,97,115,116]⟩) (h1:s ≠ ⟨#[64,119,114,97,112]⟩) (h2:s ≠ ⟨#[64,110,117,108,108]⟩) (h3:s ≠ ⟨#[64,116,121,112,101]⟩) (h4:s ≠ ⟨#[64,115,111,109,101]⟩):Lib.idxOfS bwB s=-1:=by
 unfold Lib.idxOfS bwB
 simp only [Lib.idxFromS]
 rw [if_neg (Ne.symm h0),if_neg (Ne.symm h1),if_neg (Ne.symm h2),if_neg (Ne.symm h3),if_neg (Ne.symm h4)]
theorem builtin_any {C:Cx} {a:Nat} {w:World} (h:PS C a w) (HE0:∀ b,a < b → EX C b):Calls Tryz.prog 260 #[Pp C] w (Out C w 0 (bltS C a)):=by
 by_cases h0:tx C.L a=⟨#[64,99,97,115,116]⟩
 ·exact blt_cast h HE0 h0
 by_cases h1:tx C.L a=⟨#[64,119,114,97,112]⟩
 ·exact blt_wrap h HE0 h1
 by_cases h2:tx C.L a=⟨#[64,110,117,108,108]⟩
 ·exact blt_null h HE0 h2
 by_cases h3:tx C.L a=⟨#[64,116,121,112,101]⟩
 ·exact blt_type h HE0 h3
 by_cases h4:tx C.L a=⟨#[64,115,111,109,101]⟩
 ·exact blt_some h HE0 h4
 have hlt:=h.lt
 have R0:Hid (Rx C w 36 zEx a (w.alloc (.cells zEx 36))):=Rx.init h _ _
 have E:Hid (bltS C a=some (.bad a)):=by
  unfold Hid bltS
  rw [if_neg h0,if_neg h1,if_neg h2,if_neg h3,if_neg h4]
 have HK:=Lib.hid (idx_none h0 h1 h2 h3 h4)
 generalize bltS C a=r0 at E ⊢
 clear h HE0 h0 h1 h2 h3 h4
 go_enter Tryz.func260,Tryz.ntmps260
 go_wp2_with (first
  | (go_at_call 119; refine (peek_any R0.out.ps).mono ?_; rintro r w1 ⟨rfl,x1⟩; have R1:=Lib.hid (R0.out.ext x1))
  | (go_at_call 227
     have R1a:=Lib.hid (R1.out.ext ((Ext.refl w1).alloc (.cells #[.string ⟨#[64,99,97,115,116]⟩,.string ⟨#[64,119,114,97,112]⟩,.string ⟨#[64,110,117,108,108]⟩,.string ⟨#[64,116,121,112,101]⟩,.string ⟨#[64,115,111,109,101]⟩] 9)))
     refine (index_any (tx C.L a) (-1) HK.out w1.heap.size (Blk.new w1 _ _)).mono ?_
     rintro r w2 ⟨rfl,rfl⟩)
  | (go_at_call 169; refine (fail_any R1a.out.ps).mono ?_; rintro r w4 ⟨rfl,rfl⟩))
 exact And.intro rfl (fin_bad R1a.out.mv E.out)
end Go.Proofs.YtmmnhbhnjiajhaaGreatDoor.c
