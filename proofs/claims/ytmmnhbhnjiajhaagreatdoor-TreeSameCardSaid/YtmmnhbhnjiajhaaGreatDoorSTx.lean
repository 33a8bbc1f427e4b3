/- A type at a place. Conditions: the parser stands as PS says; the place's function says which bases may stand there. -/
import Derived.Test.YtmmnhbhnjiajhaaGreatDoorSTw
import Derived.Deep.CutRange
namespace Go.Proofs.YtmmnhbhnjiajhaaGreatDoor.c
open Go.RowKit
set_option linter.unusedVariables false
set_option maxRecDepth 100000
set_option maxHeartbeats 3200000
set_option linter.unusedSimpArgs false
def OutT (C:Cx) (w:World) (r:Except Nat (Ty × Nat)) (e:Ending) (w':World):Prop :=
 (∃ t b,Hid (r=.ok (t,b))∧e=.returned (.agg (tyA t))∧Mv C w b w') ∨ ∃ b,Hid (r=.error b)∧e=.panicked (pan b)∧Mv C w b w'
def typ2 (L:List Tok) (a2:Nat) (er op v b t n:Bool):Except Nat (Ty × Nat) :=
 if kd_ L a2=0∧(baseS (tx L a2)).2=true∧isTypeS ⟨(baseS (tx L a2)).1.base,(baseS (tx L a2)).1.bits,(baseS (tx L a2)).1.name,op,er⟩=true∧alS v b t n (baseS (tx L a2)).1.base=true then .ok (⟨(baseS (tx L a2)).1.base,(baseS (tx L a2)).1.bits,(baseS (tx L a2)).1.name,op,er⟩,a2 + 1) else .error a2
theorem typS_eq {L:List Tok} {a a1 a2:Nat} {e o v b t n er op:Bool} (h1:er=(e && decide (tx L a=⟨#[33]⟩))) (h2:a1=if er=true then a + 1 else a) (h3:op=(o && decide (tx L a1=⟨#[63]⟩))) (h4:a2=if op=true then a1 + 1 else a1):typS L a e o v b t n=typ2 L a2 er op v b t n:=by
 subst h1; subst h2; subst h3; subst h4
 rfl
structure TySt (C:Cx) (w:World) (pl:Array Value) (a1:Nat) (er op:Bool) (wx:World):Prop where
 mv:Mv C w a1 wx
 b3:Blk wx w.heap.size 167 pl
 b4:Blk wx (w.heap.size + 1) 32 zTy
 b5:Blk wx (w.heap.size + 1 + 1) 32 #[.int .i64 0,.int .i64 0,.string ⟨#[]⟩,.bool op,.bool er]
section
variable {C:Cx} {w wx w2:World} {pl:Array Value} {a1 a2:Nat} {er op:Bool}
theorem TySt.to (h:TySt C w pl a1 er op wx) (k:Mv C wx a2 w2) (hm:C.m < w.heap.size):TySt C w pl a2 er op w2 :=
 ⟨h.mv.trans k,h.b3.px k.px (by omega),h.b4.px k.px (by omega),h.b5.px k.px (by omega)⟩
theorem TySt.set_ (h:TySt C w pl a1 er op wx) (hm:C.m < w.heap.size) (i:Nat) (u:Value) {er' op':Bool} (he:(#[.int .i64 0,.int .i64 0,.string ⟨#[]⟩,.bool op,.bool er]:Array Value).setIfInBounds i u=#[.int .i64 0,.int .i64 0,.string ⟨#[]⟩,.bool op',.bool er']):TySt C w pl a1 er' op' (wx.setCell ⟨w.heap.size + 1 + 1,i,none⟩ u):=by
 have hp:Px C.m w (wx.setCell ⟨w.heap.size + 1 + 1,i,none⟩ u):=h.mv.px.set_ (p:=⟨w.heap.size + 1 + 1,i,none⟩) (by show w.heap.size ≤ w.heap.size + 1 + 1; omega) u
 refine ⟨⟨⟨h.mv.ps.ext.setCell (p:=⟨w.heap.size + 1 + 1,i,none⟩) (by have:=C.hm; show C.w0.heap.size ≤ w.heap.size + 1 + 1; omega) _,h.mv.ps.le,h.mv.ps.blk.far (p:=⟨w.heap.size + 1 + 1,i,none⟩) (by show C.m ≠ w.heap.size + 1 + 1; omega) _⟩,hp⟩,h.b3.far (p:=⟨w.heap.size + 1 + 1,i,none⟩) (by show w.heap.size ≠ w.heap.size + 1 + 1; omega) _,h.b4.far (p:=⟨w.heap.size + 1 + 1,i,none⟩) (by show w.heap.size + 1 ≠ w.heap.size + 1 + 1; omega) _,?_⟩
 rw [← he]
 exact h.b5.set_ i u
end
theorem ty_cells {w:World} {g:Nat} {t:TypeId} {ty:Ty} (h:Blk w g t (tyA ty)):w.cell? ⟨g,0,none⟩=some (.int .i64 ty.base)∧w.cell? ⟨g,1,none⟩=some (.int .i64 ty.bits)∧w.cell? ⟨g,2,none⟩=some (.string ty.name)∧w.cell? ⟨g,3,none⟩=some (.bool ty.opt)∧w.cell? ⟨g,4,none⟩=some (.bool ty.err) :=
 ⟨h.cell 0,h.cell 1,h.cell 2,h.cell 3,h.cell 4⟩
theorem base_lit (s:ByteArray) (w:World) (hs:s.size ≤ 4000) (g:Laid w):Calls Tryz.prog 170 #[.string s] w fun e w'=>e=.returned (.tuple #[.agg #[.int .i64 (baseS s).1.base,.int .i64 (baseS s).1.bits,.string (baseS s).1.name,.bool (baseS s).1.opt,.bool (baseS s).1.err],.bool (baseS s).2])∧Ext w w':=base_any s w hs g
theorem typed_any {C:Cx} {a:Nat} {w:World} (h:PS C a w) (e o v b t n:Bool) (K:FuncId) (caps:Array Value) (hK:Enters K)
  (hp:∀ (ty:Ty) (w1:World),isTypeS ty=true → (e=false → ty.err=false) → (o=false → ty.opt=false) → Px C.m w w1 → Ext C.w0 w1 → Calls Tryz.prog K (#[.agg (tyA ty)] ++ caps) w1 fun r w2=>r=.returned (.bool (alS v b t n ty.base))∧Ext w1 w2) :
  Calls Tryz.prog 116 #[Pp C,.agg #[.bool e,.bool o,.func (.func K) #[] caps]] w (OutT C w (typS C.L a e o v b t n)):=by
 have hm:=h.lt
 have S0:Hid (TySt C w #[.bool e,.bool o,.func (.func K) #[] caps] a false false (((w.alloc (.cells #[.bool e,.bool o,.func (.func K) #[] caps] 167)).alloc (.cells zTy 32)).alloc (.cells zTy 32))) :=
  ⟨h.mv exA,((Blk.new w _ _).alloc _).alloc _,by
   have q:=(Blk.new (w.alloc (.cells #[.bool e,.bool o,.func (.func K) #[] caps] 167)) 32 zTy).alloc (.cells zTy 32)
   rw [size_alloc] at q
   exact q,by
   have q:=Blk.new ((w.alloc (.cells #[.bool e,.bool o,.func (.func K) #[] caps] 167)).alloc (.cells zTy 32)) 32 zTy
   rw [size_alloc,size_alloc] at q
   exact q⟩
 have HPp:=Lib.hid hp
 have HG:=Lib.hid h
 clear h hp
 go_enter Tryz.func116,Tryz.ntmps116
 go_upto_region 2 with fail
 go_cut [13] from 8 to 13 (fun c wx=>∃ er a1,Hid (er=(e && decide (tx C.L a=⟨#[33]⟩)))∧Hid (a1=if er=true then a + 1 else a)∧c=.bool er∧Hid (TySt C w #[.bool e,.bool o,.func (.func K) #[] caps] a1 false false wx))
 case first =>
  cases e
  ·go_wp2_with fail
   go_meet
   exact ⟨false,a,rfl,rfl,rfl,S0⟩
  ·go_wp2_with (first
    | (go_at_call 113; refine (next_any S0.out.mv.ps ⟨#[33]⟩ (by decide)).mono ?_; rintro r w2 (⟨hx,rfl,h2⟩ | ⟨hx,rfl,h2⟩)))
   ·go_meet
    exact ⟨true,a + 1,by unfold Hid; simp only [hx,decide_true,Bool.and_true],by unfold Hid; simp only [if_true],rfl,S0.out.to h2 hm⟩
   ·go_meet
    exact ⟨false,a,by unfold Hid; simp only [hx,decide_false,Bool.and_false],rfl,rfl,S0.out.to h2 hm⟩
 case rest =>
  obtain ⟨er,a1,hE1,hE2,rfl,hS⟩:=hcut
  go_upto_if 13 with fail
  go_cut [] from 14 to 14 (fun wx=>Hid (TySt C w #[.bool e,.bool o,.func (.func K) #[] caps] a1 er false wx))
  case first =>
   cases er
   ·go_wp2_with fail
    go_meet
    exact hS
   ·have c5:∀ i,wc.frozen? ⟨w.heap.size + 1 + 1,i,none⟩=false:=hS.out.b5.frozen
    have c6:wc.cell? ⟨w.heap.size + 1 + 1,4,none⟩=some (.bool false):=hS.out.b5.cell 4
    go_wp2_with fail
    go_meet
    exact hS.out.set_ hm 4 (.bool true) rfl
  case rest =>
   clear hS
   rename Hid (TySt C w _ a1 er false _)=>hS
   go_upto_region 4 with fail
   go_cut [20] from 15 to 20 (fun c wx=>∃ op a2,Hid (op=(o && decide (tx C.L a1=⟨#[63]⟩)))∧Hid (a2=if op=true then a1 + 1 else a1)∧c=.bool op∧Hid (TySt C w #[.bool e,.bool o,.func (.func K) #[] caps] a2 er false wx))
   case first =>
    have c3:wc.cell? ⟨w.heap.size,1,none⟩=some (.bool o):=hS.out.b3.cell 1
    cases o
    ·go_wp2_with fail
     go_meet
     exact ⟨false,a1,rfl,rfl,rfl,hS⟩
    ·go_wp2_with (first
      | (go_at_call 113; refine (next_any hS.out.mv.ps ⟨#[63]⟩ (by decide)).mono ?_; rintro r w2 (⟨hx,rfl,h2⟩ | ⟨hx,rfl,h2⟩)))
     ·go_meet
      exact ⟨true,a1 + 1,by unfold Hid; simp only [hx,decide_true,Bool.and_true],by unfold Hid; simp only [if_true],rfl,hS.out.to h2 hm⟩
     ·go_meet
      exact ⟨false,a1,by unfold Hid; simp only [hx,decide_false,Bool.and_false],rfl,rfl,hS.out.to h2 hm⟩
   case rest =>
    clear hS
    obtain ⟨op,a2,hE3,hE4,rfl,hS⟩:=hcut
    go_upto_if 20 with fail
    go_cut [] from 21 to 21 (fun wx=>Hid (TySt C w #[.bool e,.bool o,.func (.func K) #[] caps] a2 er op wx))
    case first =>
     cases op
     ·go_wp2_with fail
      go_meet
      exact hS
     ·have c5:∀ i,wc.frozen? ⟨w.heap.size + 1 + 1,i,none⟩=false:=hS.out.b5.frozen
      have c6:wc.cell? ⟨w.heap.size + 1 + 1,3,none⟩=some (.bool false):=hS.out.b5.cell 3
      go_wp2_with fail
      go_meet
      exact hS.out.set_ hm 3 (.bool true) rfl
    case rest =>
     clear hS
     rename Hid (TySt C w _ a2 er op _)=>hS
     have HE:Hid (typS C.L a e o v b t n=typ2 C.L a2 er op v b t n):=typS_eq hE1.out hE2.out hE3.out hE4.out
     have her:Hid (e=false → er=false):=by have:=hE1.out; intro h; rw [this,h]; rfl
     have hop:Hid (o=false → op=false):=by have:=hE3.out; intro h; rw [this,h]; rfl
     clear hE1 hE2 hE3 hE4 S0
     have hM:=Lib.hid hS.out.mv
     obtain ⟨tb,htb⟩:∃ tb,(baseS (tx C.L a2)).1=tb:=⟨_,rfl⟩
     obtain ⟨ok,hok⟩:∃ ok,(baseS (tx C.L a2)).2=ok:=⟨_,rfl⟩
     have HTB:=Lib.hid htb
     have HOK:=Lib.hid hok
     have HBS:Hid (baseS (tx C.L a2)=(tb,ok)):=by unfold Hid; rw [← htb,← hok]
     clear htb hok
     by_cases hk:kd_ C.L a2=0
     ·have hkb:(kd_ C.L a2 != 0)=false:=by simpa using hk
      have hlt:a2 < C.L.length:=by
       rcases Nat.lt_or_ge a2 C.L.length with h1 | h1
       ·exact h1
       ·rw [kd_end h1] at hk; cases hk
      cases ok
      ·go_wp2_with (first
        | (go_at_call 119; refine (peek_any hM.out.ps).mono ?_; rintro r w1 ⟨rfl,x1⟩)
        | (go_at_call 170; refine (base_lit _ _ PS.tx_size (C.laid.ext (hM.out.ps.ext.trans x1))).mono ?_; rw [HBS.out]; rintro r w2 ⟨rfl,x2⟩)
        | (go_at_call 168; refine (kind_any (w:=_) (hM.out.ps.to exA)).mono ?_; rw [hk]; rintro r w3 ⟨rfl,x3⟩)
        | (go_at_call 169; refine (fail_any (hM.out.ps.to exA)).mono ?_; rintro r w4 ⟨rfl,rfl⟩))
       exact And.intro rfl (.inr ⟨a2,by unfold Hid; rw [HE.out]; unfold typ2; rw [HOK.out,if_neg (by simp)],rfl,hM.out.to exA⟩)
      ·go_wp2_with (first
        | (go_at_call 119; refine (peek_any hM.out.ps).mono ?_; rintro r w1 ⟨rfl,x1⟩)
        | (go_at_call 170; refine (base_lit _ _ PS.tx_size (C.laid.ext (hM.out.ps.ext.trans x1))).mono ?_; rw [HBS.out]; rintro r w2 ⟨rfl,x2⟩)
        | (go_at_call 168; refine (kind_any (w:=_) (hM.out.ps.to exA)).mono ?_; rw [hk]; rintro r w3 ⟨rfl,x3⟩))
       have B5:Blk w3 (w.heap.size + 1 + 1) 32 #[.int .i64 0,.int .i64 0,.string ⟨#[]⟩,.bool op,.bool er]:=(((hS.out.b5.ext x1).ext x2).alloc _).ext x3
       have B6:Blk w3 w2.heap.size 32 #[.int .i64 tb.base,.int .i64 tb.bits,.string tb.name,.bool tb.opt,.bool tb.err]:=(Blk.new w2 _ _).ext x3
       have q3:w3.cell? ⟨w.heap.size + 1 + 1,3,none⟩=some (.bool op):=B5.cell 3
       have q4:w3.cell? ⟨w.heap.size + 1 + 1,4,none⟩=some (.bool er):=B5.cell 4
       have p3:w3.cell? ⟨w2.heap.size,3,none⟩=some (.bool tb.opt):=B6.cell 3
       have p4:w3.cell? ⟨w2.heap.size,4,none⟩=some (.bool tb.err):=B6.cell 4
       have pf:∀ i,w3.frozen? ⟨w2.heap.size,i,none⟩=false:=B6.frozen
       have hz:w.heap.size + 1 + 1 < w2.heap.size:=by have:=hS.out.b5.lt; have:=x1.out.size; have:=x2.out.size; omega
       have hz1:w.heap.size + 1 + 1 ≠ w2.heap.size:=by omega
       have hz2:w2.heap.size ≠ w.heap.size + 1 + 1:=by omega
       go_region
       have E0:=(hM.out.to (x1.trans x2)).to (((Ext.refl w2).alloc (.cells #[.int .i64 tb.base,.int .i64 tb.bits,.string tb.name,.bool tb.opt,.bool tb.err] 32)).trans x3)
       have hw0:C.w0.heap.size ≤ w2.heap.size:=by have:=E0.ps.ext.out.size; have:=C.hm; omega
       have M4:Hid (Mv C w a2 ((w3.setCell ⟨w2.heap.size,4,none⟩ (.bool er)).setCell ⟨w2.heap.size,3,none⟩ (.bool op)).drew) :=
        ⟨⟨((E0.ps.ext.setCell (p:=⟨w2.heap.size,4,none⟩) hw0 _).setCell (p:=⟨w2.heap.size,3,none⟩) hw0 _).drew,E0.ps.le,((E0.ps.blk.far (p:=⟨w2.heap.size,4,none⟩) (by show C.m ≠ w2.heap.size; omega) _).far (p:=⟨w2.heap.size,3,none⟩) (by show C.m ≠ w2.heap.size; omega) _).drew⟩,
         (((E0.px).set_ (p:=⟨w2.heap.size,4,none⟩) (by show w.heap.size ≤ w2.heap.size; omega) _).set_ (p:=⟨w2.heap.size,3,none⟩) (by show w.heap.size ≤ w2.heap.size; omega) _).drew⟩
       have B7:Hid (Blk ((w3.setCell ⟨w2.heap.size,4,none⟩ (.bool er)).setCell ⟨w2.heap.size,3,none⟩ (.bool op)).drew w2.heap.size 32 (tyA ⟨tb.base,tb.bits,tb.name,op,er⟩)):=((B6.set_ 4 _).set_ 3 _).drew
       have B8:Hid (Blk ((w3.setCell ⟨w2.heap.size,4,none⟩ (.bool er)).setCell ⟨w2.heap.size,3,none⟩ (.bool op)).drew w.heap.size 167 #[.bool e,.bool o,.func (.func K) #[] caps]) :=
        ((((((hS.out.b3.ext x1).ext x2).alloc _).ext x3).far (p:=⟨w2.heap.size,4,none⟩) (by show w.heap.size ≠ w2.heap.size; omega) _).far (p:=⟨w2.heap.size,3,none⟩) (by show w.heap.size ≠ w2.heap.size; omega) _).drew
       have B9:Hid (Blk ((w3.setCell ⟨w2.heap.size,4,none⟩ (.bool er)).setCell ⟨w2.heap.size,3,none⟩ (.bool op)).drew (w.heap.size + 1) 32 zTy) :=
        ((((((hS.out.b4.ext x1).ext x2).alloc _).ext x3).far (p:=⟨w2.heap.size,4,none⟩) (by show w.heap.size + 1 ≠ w2.heap.size; omega) _).far (p:=⟨w2.heap.size,3,none⟩) (by show w.heap.size + 1 ≠ w2.heap.size; omega) _).drew
       obtain ⟨w4,hw4⟩:∃ w4,((w3.setCell ⟨w2.heap.size,4,none⟩ (.bool er)).setCell ⟨w2.heap.size,3,none⟩ (.bool op)).drew=w4:=⟨_,rfl⟩
       rw [hw4] at M4 B7 B8 B9 ⊢
       clear hw4 B5 B6 q3 q4 p3 p4 pf E0
       obtain ⟨ty,hty⟩:∃ ty:Ty,⟨tb.base,tb.bits,tb.name,op,er⟩=ty:=⟨_,rfl⟩
       rw [hty] at B7
       have HT2:Hid (typ2 C.L a2 er op v b t n=if isTypeS ty=true∧alS v b t n ty.base=true then .ok (ty,a2 + 1) else .error a2):=by
        unfold Hid typ2
        rw [HTB.out,hty,HOK.out,show tb.base=ty.base by rw [← hty]]
        simp only [hk,true_and]
       have he1:Hid (e=false → ty.err=false):=by rw [← hty]; exact her
       have ho1:Hid (o=false → ty.opt=false):=by rw [← hty]; exact hop
       obtain ⟨is,his⟩:∃ is,isTypeS ty=is:=⟨_,rfl⟩
       have HIS:=Lib.hid his
       clear his hty hop her hk hkb hS hM x1 x2 x3 HTB HOK HBS
       go_upto_region 10 with fail
       have c8:w4.cell? ⟨w.heap.size,2,none⟩=some (.func (.func K) #[] caps):=B8.out.cell 2
       cases is
       ·go_wp2_with (first
         | ((with_reducible show wpList _ _ _ (Oper.mk (some 47) (.load 32 (.tmp 6)) _ _ _ _ :: _) _ _); refine wpList_ldb rfl _ _ rfl _ _ (tyA ty) rfl B7.out _ Tryz.underlying32 rfl (by kernel_rfl) ?_)
         | (go_at_call 87; refine (isTy ty _ (C.laid.ext M4.out.ps.ext)).mono ?_; rw [HIS.out]; rintro r w5 ⟨rfl,x5⟩)
         | (go_at_call 169; refine (fail_any (M4.out.to x5).ps).mono ?_; rintro r w7 ⟨rfl,rfl⟩))
        exact And.intro rfl (.inr ⟨a2,by unfold Hid; rw [HE.out,HT2.out,HIS.out]; simp,rfl,M4.out.to x5⟩)
       ·obtain ⟨al,hal⟩:∃ al,alS v b t n ty.base=al:=⟨_,rfl⟩
        have HAL:=Lib.hid hal
        clear hal
        cases al <;> go_wp2_with (first
         | ((with_reducible show wpList _ _ _ (Oper.mk (some 47) (.load 32 (.tmp 6)) _ _ _ _ :: _) _ _); refine wpList_ldb rfl _ _ rfl _ _ (tyA ty) rfl B7.out _ Tryz.underlying32 rfl (by kernel_rfl) ?_)
         | (go_at_call 87; refine (isTy ty _ (C.laid.ext M4.out.ps.ext)).mono ?_; rw [HIS.out]; rintro r w5 ⟨rfl,x5⟩; have c9:w5.cell? ⟨w.heap.size,2,none⟩=some (.func (.func K) #[] caps):=(x5.cell (p:=⟨w.heap.size,2,none⟩) B8.out.lt).trans c8; obtain ⟨q0,q1,q2,q3,q4⟩:=ty_cells (B7.out.ext x5)))
        ·simp only [hK _ _]
         go_wp2_with fail
         refine (HPp.out ty w5 HIS.out he1.out ho1.out (M4.out.to x5).px (M4.out.to x5).ps.ext).mono ?_
         rw [HAL.out]
         rintro r w6 ⟨rfl,x6⟩
         have M6:=Lib.hid (M4.out.to (x5.trans x6))
         go_wp2_with (first
          | (go_at_call 169; refine (fail_any M6.out.ps).mono ?_; rintro r w7 ⟨rfl,rfl⟩))
         exact And.intro rfl (.inr ⟨a2,by unfold Hid; rw [HE.out,HT2.out,HAL.out]; simp,rfl,M6.out⟩)
        ·simp only [hK _ _]
         go_wp2_with fail
         refine (HPp.out ty w5 HIS.out he1.out ho1.out (M4.out.to x5).px (M4.out.to x5).ps.ext).mono ?_
         rw [HAL.out]
         rintro r w6 ⟨rfl,x6⟩
         have M6:=Lib.hid (M4.out.to (x5.trans x6))
         obtain ⟨hm6,c60,c61,hf6⟩:=M6.out.ps.facts
         have hww:IntKind.i64.wrap ((a2:Int) + 1)=(a2:Int) + 1:=IntWalk.i64_in _ (by have:=C.len; omega)
         have M7:=Lib.hid (M6.out.trans (M6.out.ps.step hlt))
         have B17:=Lib.hid ((B7.out.ext (x5.trans x6)).px (M6.out.ps.step hlt).px (by omega))
         have B19:=Lib.hid ((B9.out.ext (x5.trans x6)).px (M6.out.ps.step hlt).px (by omega))
         go_wp2_with (first
          | ((with_reducible show wpList _ _ _ (Oper.mk (some 68) (.load 32 (.tmp 6)) _ _ _ _ :: _) _ _); refine wpList_ldb rfl _ _ rfl _ _ (tyA ty) rfl B17.out _ Tryz.underlying32 rfl (by kernel_rfl) ?_)
          | ((with_reducible show wpList _ _ _ (Oper.mk none (.store 32 (.tmp 4) _) _ _ _ _ :: _) _ _); refine wpList_store_row rfl _ _ _ rfl _ rfl _ zTy _ B19.out rfl rfl (tyA_one ty) (by kernel_rfl) ?_))
         refine bodyPost_ret (results_cell_row rfl _ _ (w.heap.size + 1) _ (tyA ty) (0,0) _ rfl (B19.out.row _) Tryz.underlying32 rfl (by kernel_rfl)) rfl ?_
         exact .inl ⟨ty,a2 + 1,by unfold Hid; rw [HE.out,HT2.out,HIS.out,HAL.out]; simp,rfl,M7.out.row (by omega) hm _⟩
     ·have hkb:(kd_ C.L a2 != 0)=true:=by simpa using hk
      go_wp2_with (first
       | (go_at_call 119; refine (peek_any hM.out.ps).mono ?_; rintro r w1 ⟨rfl,x1⟩)
       | (go_at_call 170; refine (base_lit _ _ PS.tx_size (C.laid.ext (hM.out.ps.ext.trans x1))).mono ?_; rw [HBS.out]; rintro r w2 ⟨rfl,x2⟩)
       | (go_at_call 168; refine (kind_any (w:=_) (hM.out.ps.to exA)).mono ?_; rintro r w3 ⟨rfl,x3⟩)
       | (go_at_call 169; refine (fail_any (hM.out.ps.to exA)).mono ?_; rintro r w4 ⟨rfl,rfl⟩))
      exact And.intro rfl (.inr ⟨a2,by unfold Hid; rw [HE.out]; unfold typ2; rw [if_neg]; exact fun h=>hk h.1,rfl,hM.out.to exA⟩)
end Go.Proofs.YtmmnhbhnjiajhaaGreatDoor.c
