/- A switch. -/
import Derived.Test.YtmmnhbhnjiajhaaGreatDoorSUg
import Derived.Test.YtmmnhbhnjiajhaaGreatDoorSTa
import Derived.Deep.CutRange
namespace Go.Proofs.YtmmnhbhnjiajhaaGreatDoor.c
open Go.RowKit
set_option linter.unusedVariables false
set_option maxRecDepth 100000
set_option maxHeartbeats 3200000
set_option linter.unusedSimpArgs false
theorem parS_thn {L:List Tok} {P:Nt → Nat → Option Rs} {a:Nat} {f:Nd → Nat → Option Rs}:parS L P a f=thn (parS L P a fun x b=>some (.ok x b)) f:=by
 unfold parS wnt
 split
 ·cases P (.lvl 0) (a + 1) with
  | none=>rfl
  | some r =>
   cases r with
   | bad k=>rfl
   | ok x b =>
    show (if _ then _ else _)=thn (if _ then _ else _) f
    split <;> rfl
 ·rfl
structure ChSt (C:Cx) (w:World) (g:Nat) (va v:Value) (x acc:Nd) (b:Nat) (wr:World):Prop where
 mv:Mv C w b wr
 res:Blk wr w.heap.size 44 zSt
 hg:w.heap.size < g
 box:Blk wr g 44 (stC 10 ⟨#[]⟩ tZ va sl0 v)
 cn:Sl (vp (fun i=>w.heap.size < i∧i < g) wr) va x 0
 gw:Gw (g + 1) 101 3 v acc wr
section
variable {C:Cx} {w wr w2 w4 w':World} {b c g:Nat} {va v v':Value} {x acc:Nd} {cs:Array Value} {xs:List Value}
theorem ChSt.to (h:ChSt C w g va v x acc b wr) (k:Mv C wr c w2) (hm:C.m < w.heap.size):ChSt C w g va v x acc c w2 :=
 have:=h.hg
 ⟨h.mv.trans k,h.res.px k.px (by omega),h.hg,h.box.px k.px (by omega),h.cn.px k.px fun i hi _=>⟨by omega,hi⟩,h.gw.px k.px (by omega)⟩
theorem ChSt.ext (h:ChSt C w g va v x acc b wr) (k:Ext wr w2):ChSt C w g va v x acc b w2 :=
 ⟨h.mv.to k,h.res.ext k,h.hg,h.box.ext k,h.cn.ext k fun i hi _=>hi,h.gw.ext k⟩
theorem ChSt.add {lo hi:Int} {z:Nd} (h:ChSt C w g va v x acc b w2) (k:Mv C w2 c w4) (hm:C.m < w.heap.size) (hn:Nv (vp (w2.heap.size ≤ ·) w4) 3 (.ca lo hi z .nil) cs)
  (h1:(w4.alloc (.cells cs 101)).ownsRow (g + 1) 101 (szK 3) v acc.len xs) (h2:Elems (vp (fun i=>g + 1 ≤ i∧v.ownBlock ≠ some i) (w4.alloc (.cells cs 101))) acc 3 xs)
  (r1:w'.ownsRow (g + 1) 101 (szK 3) v' (acc.len + 1) (xs ++ cs.toList)) (r2:(w4.alloc (.cells cs 101)).grownBy w' v.ownBlock) (r3:v'.ownBlock=v.ownBlock ∨ v'.ownBlock=some (w4.alloc (.cells cs 101)).heap.size) :
  Blk w' g 44 (stC 10 ⟨#[]⟩ tZ va sl0 v)∧ChSt C w g va v' x (acc.app (.ca lo hi z .nil)) c (w'.setCell ⟨g,9,none⟩ v'):=by
 have hg:=h.hg
 have hS:=(h.to k hm).ext ((Ext.refl w4).alloc (.cells cs 101))
 have ho:∀ q,v.ownBlock=some q → g + 1 ≤ q:=fun q hq=>(h.gw.own_lt hq).1
 have hgw:Gw (g + 1) 101 3 v' (acc.app (.ca lo hi z .nil)) w':=Gw.grown h1 h2 (hn.ext ((Ext.refl w4).alloc _) fun _ hi _=>hi) (by have:=h.box.lt; omega) (fun _ hq=>(h.gw.own_lt hq).2) r1 r2 r3
 have hb:Blk w' g 44 (stC 10 ⟨#[]⟩ tZ va sl0 v):=(r2.block _ hS.box.lt fun e=>by have:=ho _ e.symm; omega).trans hS.box
 have hm1:Mv C w c w':=hS.mv.grown r2 (fun q hq=>by have:=ho q hq; omega) hm
 have hr:Blk w' w.heap.size 44 zSt:=(r2.block _ hS.res.lt fun e=>by have:=ho _ e.symm; omega).trans hS.res
 refine ⟨hb,⟨⟨hm1.ps.ext.setCell (p:=⟨g,9,none⟩) (by have:=C.hm; show C.w0.heap.size ≤ g; omega) _,hm1.ps.le,hm1.ps.blk.far (p:=⟨g,9,none⟩) (by show C.m ≠ g; omega) _⟩,hm1.px.set_ (p:=⟨g,9,none⟩) (by show w.heap.size ≤ g; omega) _⟩,hr.far (p:=⟨g,9,none⟩) (by show w.heap.size ≠ g; omega) _,hg,hb.set_ 9 v',?_,hgw.px ((Px.refl g w').setM 9 v') (by omega)⟩
 exact (hS.cn.mono (vp_le (q:=fun i=>w.heap.size < i∧i < g) (w':=w') fun i hi hl=>⟨hi,r2.block i hl fun e=>by have:=ho _ e.symm; omega⟩)).px ((Px.refl g w').setM 9 v') fun i hi _=>⟨by omega,hi⟩
structure ChEn (C:Cx) (w:World) (g:Nat) (va vb v:Value) (x y acc:Nd) (b:Nat) (wr:World):Prop where
 mv:Mv C w b wr
 res:Blk wr w.heap.size 44 zSt
 hg:w.heap.size < g
 box:Blk wr g 44 (stC 10 ⟨#[]⟩ tZ va vb v)
 nv:Nv (vp (w.heap.size < ·) wr) 1 (stN 10 ⟨#[]⟩ tZ x y acc) (stC 10 ⟨#[]⟩ tZ va vb v)
theorem ChEn.to {vb:Value} {y:Nd} (h:ChEn C w g va vb v x y acc b wr) (k:Mv C wr c w2) (hm:C.m < w.heap.size):ChEn C w g va vb v x y acc c w2 :=
 have:=h.hg
 ⟨h.mv.trans k,h.res.px k.px (by omega),h.hg,h.box.px k.px (by omega),h.nv.px k.px fun i hi _=>⟨by omega,hi⟩⟩
theorem ChEn.fin {vb:Value} {y:Nd} {r:Option Rs} (h:ChEn C w g va vb v x y acc b wr) (hm:C.m < w.heap.size) (hr:r=some (.ok (stN 10 ⟨#[]⟩ tZ x y acc) b)):Out C w 1 r (.returned (.agg (stC 10 ⟨#[]⟩ tZ va vb v))) (wr.setRow w.heap.size (stC 10 ⟨#[]⟩ tZ va vb v)) :=
 fin_row h.mv (Nat.le_refl _) hm h.nv (fun i hi _=>⟨by omega,by omega⟩) hr
theorem ChSt.flat (h:ChSt C w g va v x acc b wr):ChEn C w g va sl0 v x .nil acc b wr :=
 have:=h.hg
 ⟨h.mv,h.res,h.hg,h.box,nv_st (h.cn.mono (vp_le fun i hi _=>⟨hi.1,rfl⟩)) (Sl.nil _ none 0 2) (h.gw.sl.mono (vp_le fun i hi _=>⟨by omega,rfl⟩))⟩
theorem ChSt.fill {A:Option Addr} {n d:Nat} {p:Nat → Prop} {z:Nd} (h:ChSt C w g va v x acc b w2) (hm:C.m < w.heap.size) (hv:v'=.slice A n d) (hs:Sl (vp p w2) v' z 1) (hp:∀ i,p i → g < i) :
  ChEn C w g va (.slice (some ⟨w2.heap.size,0,none⟩) 1 1) v x (.bl z .nil) acc b ((w2.alloc (.cells #[.slice A n d] 34)).setCell ⟨g,8,none⟩ (.slice (some ⟨w2.heap.size,0,none⟩) 1 1)) ∧
  (w2.alloc (.cells #[.slice A n d] 34)).cell? ⟨g,8,none⟩=some sl0∧∀ i,(w2.alloc (.cells #[.slice A n d] 34)).frozen? ⟨g,i,none⟩=false:=by
 subst hv
 have hg:=h.hg
 have x1:=(Ext.refl w2).alloc (.cells #[.slice A n d] 34)
 have r:=h.ext x1
 have px:=(Px.refl g (w2.alloc (.cells #[.slice A n d] 34))).setM 8 (.slice (some ⟨w2.heap.size,0,none⟩) 1 1)
 refine ⟨⟨⟨⟨r.mv.ps.ext.setCell (p:=⟨g,8,none⟩) (by have:=C.hm; show C.w0.heap.size ≤ g; omega) _,r.mv.ps.le,r.mv.ps.blk.far (p:=⟨g,8,none⟩) (by show C.m ≠ g; omega) _⟩,r.mv.px.set_ (p:=⟨g,8,none⟩) (by show w.heap.size ≤ g; omega) _⟩,r.res.far (p:=⟨g,8,none⟩) (by show w.heap.size ≠ g; omega) _,hg,r.box.set_ 8 _,nv_st ?_ ?_ ?_⟩,r.box.cell 8,r.box.frozen⟩
 ·exact r.cn.px px fun i hi _=>⟨by omega,hi.1⟩
 ·exact (bl_sl (hs.ext x1 (q:=(g < ·)) fun i hi _=>hp i hi) (Blk.new _ _ _) h.box.lt).px px fun i hi _=>⟨by omega,by omega⟩
 ·exact r.gw.sl.px px fun i hi _=>⟨by omega,by omega⟩
theorem Rx.set_ {t:TypeId} {zv:Array Value} (h:Rx C w t zv b wr) (hm:C.m < w.heap.size) (i:Nat) (u:Value):Rx C w t (zv.setIfInBounds i u) b (wr.setCell ⟨w.heap.size,i,none⟩ u) :=
 ⟨⟨⟨h.mv.ps.ext.setCell (p:=⟨w.heap.size,i,none⟩) (by have:=C.hm; show C.w0.heap.size ≤ w.heap.size; omega) _,h.mv.ps.le,h.mv.ps.blk.far (p:=⟨w.heap.size,i,none⟩) (by show C.m ≠ w.heap.size; omega) _⟩,h.mv.px.set_ (p:=⟨w.heap.size,i,none⟩) (Nat.le_refl _) u⟩,h.res.set_ i u⟩
end
section
variable {ops:Array Oper} {rest:List Oper} {o:Oper} {a:Act} {Q:Exit → Act → World → Prop} {w:World} {K:Act → World → Prop}
theorem fill_ca (a b c:Value):Instr.fill (fun i=>some (i * 3,3)) ((Array.range (1 * 3)).map ((Value.agg #[.int .i64 0,.int .i64 0,.slice none 0 0]).cells[· % (Value.agg #[.int .i64 0,.int .i64 0,.slice none 0 0]).cells.size]!)) [(0,.agg #[a,b,c])]=some #[a,b,c]:=by kernel_rfl
theorem wp_bsC (x:Operand) (ho:o.op=.buildSlice 42 1 #[(0,x)]) (d e f:Value) (hx:a.eval x=.agg #[d,e,f]) (h:K (a.put o.dst (.slice (some ⟨w.heap.size,0,none⟩) 1 1)) (w.alloc (.cells #[d,e,f] 101))):o.wp Tryz.prog a w K Q:=by
 obtain ⟨i0,hi0,hz0,hz1,hz2⟩:=info_parts infoCa
 refine wp_buildSlice _ 101 1 _ ho _ i0 _ Tryz.underlying42 hi0 hz0 (by rw [hz1]; decide) (by rw [hz1]; decide) ?_ h
 rw [hz1,show (#[(0,x)].map fun (i,x)=>(i,a.eval x)).toList=[(0,.agg #[d,e,f])] by simp [hx]]
 exact fill_ca d e f
end
noncomputable def chF (C:Cx) (x:Nd) (cs:Nd) (c:Nat):Option Rs :=
 if tx C.L c=⟨#[101,108,115,101]⟩ then wnt C.L (c + 1) ⟨#[61,62]⟩ (thn (gram C.L .blk (c + 2)) fun z d=>wnt C.L d ⟨#[125]⟩ (some (.ok (stN 10 ⟨#[]⟩ tZ x (.bl z .nil) cs) (d + 1))))
 else wnt C.L c ⟨#[125]⟩ (some (.ok (stN 10 ⟨#[]⟩ tZ x .nil cs) (c + 1)))
theorem choice_any {C:Cx} {a:Nat} {w:World} (h:PS C a w) (hw:tx C.L a=⟨#[115,119,105,116,99,104]⟩) (HE0:∀ b,a < b → EX C b) (HB0:∀ b,a < b → BL C b):Calls Tryz.prog 221 #[Pp C] w (Out C w 1 (choiceS C.L (gram C.L) (a + 1))):=by
 have HZ:Hid ((Tryz.prog.info? 44).map (·.size)=some 10):=by unfold Hid; kernel_rfl
 have hlt:=h.lt
 have R0:Hid (Rx C w 44 zSt a (w.alloc (.cells zSt 44))):=Rx.init h _ _
 have HE:=Lib.hid (HE0 (a + 1 + 1) (by omega))
 have HB:=Lib.hid HB0
 have hlen:=C.len
 generalize hr0:choiceS C.L (gram C.L) (a + 1)=r0
 have E0:Hid (r0=thn (parS C.L (gram C.L) (a + 1) fun x b=>some (.ok x b)) fun x b=>wnt C.L b ⟨#[123]⟩ (thn (gram C.L (.css .nil) (b + 1)) (chF C x))):=by unfold Hid; rw [← hr0]; exact parS_thn
 clear h HE0 HB0 hr0
 go_enter Tryz.func221,Tryz.ntmps221
 go_wp2_with (first
  | (go_at_call 115; (with_reducible show Calls _ _ #[_,.string ⟨#[115,119,105,116,99,104]⟩] _ _); refine (want_any R0.out.ps ⟨#[115,119,105,116,99,104]⟩ (by decide)).mono ?_; rintro r w1 (⟨_,rfl,m1⟩ | ⟨hq,rfl,m1⟩); rotate_left; exact absurd hw hq; have R1:=Lib.hid (R0.out.to m1 hlt))
  | (go_at_call 219; refine (condition_any R1.out.ps HE.out).mono ?_; rintro r w3 (⟨x,b,va,hg,rfl,hsl,m3⟩ | ⟨b,hg,rfl,m3⟩) <;> (have R3:=Lib.hid (R1.out.to m3 hlt)) <;> (have hz1:=R1.out.lt) <;> (try obtain ⟨Aa,na,ca,rfl,_⟩:=Sl.shape hsl))
  | (go_at_call 115
     have S3:Hid (ChSt C w w3.heap.size (.slice Aa na ca) sl0 x .nil b (w3.alloc (.cells (stC 10 ⟨#[]⟩ tZ (.slice Aa na ca) sl0 sl0) 44))) :=
      ⟨R3.out.mv.to ((Ext.refl w3).alloc _),R3.out.res.alloc _,R3.out.lt,Blk.new _ _ _,hsl.ext ((Ext.refl w3).alloc _) (q:=fun i=>w.heap.size < i∧i < w3.heap.size) fun i hi hj=>⟨Nat.lt_of_lt_of_le hz1 hi,hj⟩,Gw.nil _ _ _ _⟩
     have E3:=Lib.hid (E0.out.trans (thn_ok hg.out))
     refine (want_any S3.out.mv.ps ⟨#[123]⟩ (by decide)).mono ?_
     rintro r w4 (⟨h4,rfl,m4⟩ | ⟨h4,rfl,m4⟩) <;> (have S4:=Lib.hid (S3.out.to m4 hlt)) <;> (try have E4:=Lib.hid (E3.out.trans (if_pos h4)))))
 rotate_left
 ·exact And.intro rfl (fin_bad S4.out.mv (E3.out.trans (if_neg h4)))
 ·exact And.intro rfl (fin_bad R3.out.mv (E0.out.trans (thn_bad hg.out)))
 clear S3 E3 R0 R1 R3 E0 m1 m3 m4 hsl
 generalize w3.heap.size=g at S4 ⊢
 go_loopg [] (C.L.length + 1 - (b + 1)) (fun n wr=>∃ acc b2 v,r0=thn (gram C.L (.css acc) b2) (chF C x)∧a < b2∧acc.len ≤ b2∧C.L.length + 1 - b2 ≤ n∧ChSt C w g (.slice Aa na ca) v x acc b2 wr)
 case atStart =>
  have hab:a + 1 ≤ b:=(Po.wnt (r:=_) fun _=>Po.thn (gram_le _ _) fun y c hc=>Po.wnt fun _=>Po.ok (φ:=fun _ d=>a + 1 ≤ d) (by omega)) _ _ hg.out
  exact ⟨.nil,b + 1,sl0,E4.out,by omega,Nat.zero_le _,Nat.le_refl _,S4.out⟩
 case round =>
  clear S4 E4
  obtain ⟨acc,b2,v,hG,hab,hln,hn,hp⟩:=hrel
  have HG:=Lib.hid hG
  have P1:=Lib.hid hp
  have hle:=hp.mv.ps.le
  have hzw:=hp.mv.px.size
  clear hG hp
  go_upto_region 4 with fail
  go_cut [23] from 12 to 47 (fun c wx=>c=.bool (decide (tx C.L b2=⟨#[45]⟩ ∨ kd_ C.L b2=1))∧Hid (ChSt C w g (.slice Aa na ca) v x acc b2 wx))
  case first =>
   by_cases h1:tx C.L b2=⟨#[45]⟩
   ·go_wp2_with (first
     | (go_at_call 119; refine (peek_any P1.out.mv.ps).mono ?_; rw [h1]; rintro r w5 ⟨rfl,x5⟩))
    go_meet
    exact ⟨by rw [decide_eq_true (Or.inl h1)],P1.out.ext x5⟩
   ·have n1:=bs_nl [45] h1
    by_cases h2:kd_ C.L b2=1
    ·go_wp2_with (first
      | (go_at_call 119; refine (peek_any P1.out.mv.ps).mono ?_; rintro r w5 ⟨rfl,x5⟩; have P2:=Lib.hid (P1.out.ext x5))
      | (go_at_call 168; refine (kind_any P2.out.mv.ps).mono ?_; rw [h2]; rintro r w6 ⟨rfl,x6⟩))
     go_meet
     exact ⟨by rw [decide_eq_true (Or.inr h2)],P2.out.ext x6⟩
    ·have n2:(kd_ C.L b2 == 1)=false:=beq_eq_false_iff_ne.2 h2
     go_wp2_with (first
      | (go_at_call 119; refine (peek_any P1.out.mv.ps).mono ?_; rintro r w5 ⟨rfl,x5⟩; have P2:=Lib.hid (P1.out.ext x5))
      | (go_at_call 168; refine (kind_any P2.out.mv.ps).mono ?_; rintro r w6 ⟨rfl,x6⟩))
     go_meet
     exact ⟨by rw [decide_eq_false (by rintro (h | h); exact h1 h; exact h2 h)],P2.out.ext x6⟩
  case rest =>
   clear P1
   obtain ⟨rfl,S⟩:=hcut
   by_cases hc:tx C.L b2=⟨#[45]⟩ ∨ kd_ C.L b2=1
   ·rw [decide_eq_true hc]
    have E1:Hid (gram C.L (.css acc) b2=thnT (cnumS C.L b2 (-2147483648)) fun lo b=>thnT (if tx C.L b=⟨#[46,46]⟩ then cnumS C.L (b + 1) lo else .ok (lo,b)) fun hi c =>
      wnt C.L c ⟨#[61,62]⟩ (thn (gram C.L .blk (c + 1)) fun z d=>gram C.L (.css (acc.app (.ca lo hi z .nil))) d)):=by unfold Hid; rw [gram_eq]; exact if_pos hc
    go_upto_region 7 with (first
     | (go_at_call 243; refine (number_any S.out.mv.ps (-2147483648)).mono ?_; rintro r w5 (⟨lo,b5,hlo,rfl,m5⟩ | ⟨b5,hlo,rfl,m5⟩) <;> have S5:=Lib.hid (S.out.to m5 hlt)))
    rotate_left
    ·exact And.intro rfl (fin_bad S5.out.mv (HG.out.trans (thn_bad (E1.out.trans (by rw [hlo.out]; rfl)))))
    have E2:Hid (gram C.L (.css acc) b2=thnT (if tx C.L b5=⟨#[46,46]⟩ then cnumS C.L (b5 + 1) lo else .ok (lo,b5)) fun hi c=>wnt C.L c ⟨#[61,62]⟩ (thn (gram C.L .blk (c + 1)) fun z d=>gram C.L (.css (acc.app (.ca lo hi z .nil))) d)):=E1.out.trans (by rw [hlo.out]; rfl)
    have hb25:=cnumS_lt hlo.out
    have hm5:C.m < w5.heap.size:=S5.out.mv.ps.lt
    have R5:Hid (Rx C w5 101 #[.int .i64 lo,.int .i64 lo,sl0] b5 (w5.alloc (.cells #[.int .i64 lo,.int .i64 lo,sl0] 101))):=Rx.init S5.out.mv.ps _ _
    clear E1 hlo m5 S
    go_cut [31] from 12 to 47 (fun c wx=>c=.bool (decide (tx C.L b5=⟨#[46,46]⟩))∧Hid (Rx C w5 101 #[.int .i64 lo,.int .i64 lo,sl0] (if tx C.L b5=⟨#[46,46]⟩ then b5 + 1 else b5) wx))
    case first =>
     go_wp2_with (first
      | (go_at_call 113; refine (next_any R5.out.ps ⟨#[46,46]⟩ (by decide)).mono ?_; rintro r w6 (⟨h6,rfl,m6⟩ | ⟨h6,rfl,m6⟩)))
     ·go_meet
      exact ⟨by rw [decide_eq_true h6],by rw [if_pos h6]; exact R5.out.to m6 hm5⟩
     ·go_meet
      exact ⟨by rw [decide_eq_false h6],by rw [if_neg h6]; exact R5.out.to m6 hm5⟩
    case rest =>
     clear R5
     obtain ⟨rfl,R5⟩:=hcut
     go_upto_if 31 with fail
     go_cut [] from 12 to 47 (fun wx=>∃ hi c,Hid ((if tx C.L b5=⟨#[46,46]⟩ then cnumS C.L (b5 + 1) lo else .ok (lo,b5))=.ok (hi,c))∧Hid (Rx C w5 101 #[.int .i64 lo,.int .i64 hi,sl0] c wx))
     case first =>
      by_cases h6:tx C.L b5=⟨#[46,46]⟩
      ·rw [decide_eq_true h6]
       rw [if_pos h6] at R5
       have q0:wc.cell? ⟨w5.heap.size,0,none⟩=some (.int .i64 lo):=R5.out.res.cell 0
       go_wp2_with (first
        | (go_at_call 243; refine (number_any R5.out.ps lo).mono ?_; rintro r w7 (⟨hi,b7,hh,rfl,m7⟩ | ⟨b7,hh,rfl,m7⟩) <;> (have R7:=Lib.hid (R5.out.to m7 hm5)) <;> (have q1:w7.cell? ⟨w5.heap.size,1,none⟩=some (.int .i64 lo):=R7.out.res.cell 1) <;> (have qf:=R7.out.res.frozen)))
       ·go_meet
        exact ⟨hi,b7,by unfold Hid; rw [if_pos h6]; exact hh.out,R7.out.set_ hm5 1 (.int .i64 hi)⟩
       ·exact And.intro rfl (fin_bad (S5.out.mv.trans R7.out.mv) (HG.out.trans (thn_bad (E2.out.trans (by rw [if_pos h6,hh.out]; rfl)))))
      ·rw [decide_eq_false h6]
       rw [if_neg h6] at R5
       go_wp2_with fail
       go_meet
       exact ⟨lo,b5,by unfold Hid; rw [if_neg h6],R5⟩
     case rest =>
      clear R5
      obtain ⟨hi,c,hh,R5⟩:=hcut
      have E3:Hid (gram C.L (.css acc) b2=wnt C.L c ⟨#[61,62]⟩ (thn (gram C.L .blk (c + 1)) fun z d=>gram C.L (.css (acc.app (.ca lo hi z .nil))) d)):=E2.out.trans (by rw [hh.out]; rfl)
      have hb5c:=cnumS_if hh.out
      clear E2 hh
      obtain ⟨Av,nv,cv,rfl⟩:=S5.out.gw.shape
      go_upto_region 11 with (first
       | (go_at_call 115; refine (want_any R5.out.ps ⟨#[61,62]⟩ (by decide)).mono ?_; rintro r w7 (⟨h7,rfl,m7⟩ | ⟨h7,rfl,m7⟩) <;> (have R7:=Lib.hid (R5.out.to m7 hm5)))
       | (go_at_call 122; refine (HB.out (c + 1) (by omega) _ R7.out.ps).mono ?_; rintro r w8 (⟨z,d,vb,hgz,rfl,hsl,m8⟩ | ⟨d,hgz,rfl,m8⟩) <;> (have R8:=Lib.hid (R7.out.to m8 hm5)) <;> (have q2:w8.cell? ⟨w5.heap.size,2,none⟩=some sl0:=R8.out.res.cell 2) <;> (have qf:=R8.out.res.frozen) <;> (try obtain ⟨Ab,nb,cb,rfl,_⟩:=Sl.shape hsl)))
      rotate_left
      ·exact And.intro rfl (fin_bad (S5.out.mv.trans R8.out.mv) (HG.out.trans (thn_bad (E3.out.trans ((if_pos h7).trans (thn_bad hgz.out))))))
      ·exact And.intro rfl (fin_bad (S5.out.mv.trans R7.out.mv) (HG.out.trans (thn_bad (E3.out.trans (if_neg h7)))))
      have R9:Hid (Rx C w5 101 #[.int .i64 lo,.int .i64 hi,.slice Ab nb cb] d (w8.setCell ⟨w5.heap.size,2,none⟩ (.slice Ab nb cb))):=R8.out.set_ hm5 2 (.slice Ab nb cb)
      have hz7:=R7.out.lt
      have N9:Hid (Nv (vp (w5.heap.size ≤ ·) (w8.setCell ⟨w5.heap.size,2,none⟩ (.slice Ab nb cb))) 3 (.ca lo hi z .nil) #[.int .i64 lo,.int .i64 hi,.slice Ab nb cb]) :=
       ⟨⟨rfl,.slice Ab nb cb,[],rfl,hsl.px (q:=(w5.heap.size ≤ ·)) ((Px.refl w5.heap.size w8).setM 2 (.slice Ab nb cb)) (fun i hi _=>⟨by have:w7.heap.size ≤ i:=hi; omega,by have:w7.heap.size ≤ i:=hi; show w5.heap.size ≤ i; omega⟩),rfl⟩,rfl⟩
      have hgd:c + 1 < d:=blk_lt _ _ _ hgz.out
      have E4:Hid (r0=thn (gram C.L (.css (acc.app (.ca lo hi z .nil))) d) (chF C x)):=HG.out.trans (by rw [E3.out,show wnt C.L c ⟨#[61,62]⟩ _=_ from if_pos h7,hgz.out]; rfl)
      obtain ⟨w9,hw9⟩:∃ w9,w8.setCell ⟨w5.heap.size,2,none⟩ (.slice Ab nb cb)=w9:=⟨_,rfl⟩
      rw [hw9] at R9 N9 ⊢
      have S9:=Lib.hid (S5.out.to R9.out.mv hlt)
      have q9:w9.cell? ⟨g,9,none⟩=some (.slice Av nv cv):=S9.out.box.cell 9
      have hgg:=S5.out.hg
      have hgl:=S9.out.box.lt
      clear hw9 R8 R7 R5 q2 qf m7 m8 hsl E3 HG
      go_wp2_with (first
       | ((with_reducible show wpList _ _ _ (Oper.mk (some 44) (.load 101 (.tmp 4)) _ _ _ _ :: _) _ _); refine wpList_ldb rfl _ _ rfl _ _ #[.int .i64 lo,.int .i64 hi,.slice Ab nb cb] rfl R9.out.res _ Tryz.underlying101 rfl (by kernel_rfl) ?_)
       | ((with_reducible show wpList _ _ _ (Oper.mk (some 45) (.buildSlice _ _ _) _ _ _ _ :: _) _ _); refine wpList_plain rfl fun _ hK=>wp_bsC _ rfl _ _ _ rfl (hK _ _ ?_))
       | ((with_reducible show wpList _ _ _ (Oper.mk (some 46) (.call _) _ _ _ _ :: _) _ _)
          obtain ⟨xs,o1,o2⟩:=S9.out.gw.ext ((Ext.refl w9).alloc (.cells #[.int .i64 lo,.int .i64 hi,.slice Ab nb cb] 101))
          refine wpList_app1 Tryz.underlying42 infoCa rfl (by decide) (by decide) rfl _ _ rfl (g + 1) _ acc.len xs rfl o1 _ _ _ rfl (Blk.new w9 _ _) rfl N9.out.one (by omega) (by simp only [World.size_alloc]; omega) ?_
          intro v' w' r1 r2 r3
          have hadd:=S5.out.add R9.out.mv hlt N9.out o1 o2 r1 r2 r3
          have hb':=hadd.1
          have S10:=Lib.hid hadd.2
          obtain ⟨A',n',c',rfl⟩:=hadd.2.gw.shape
          have qf:=hb'.frozen
          have q10:w'.cell? ⟨g,9,none⟩=some (.slice Av nv cv):=hb'.cell 9
          clear hadd hb'))
      have hac:(acc.app (.ca lo hi z .nil)).len=acc.len + 1:=by rw [app_len]; rfl
      go_roundg (gk - 1)
      case measure=>omega
      case rel=>exact ⟨_,d,_,E4.out,by omega,by omega,by omega,S10.out⟩
   ·rw [decide_eq_false hc]
    have E2:Hid (r0=chF C x acc b2):=HG.out.trans (by rw [gram_eq]; simp only [stepG,cssS,if_neg hc]; rfl)
    clear HG
    have hg0:=S.out.hg
    have hgl:=S.out.box.lt
    obtain ⟨Av,nv,cv,rfl⟩:=S.out.gw.shape
    by_cases h1:tx C.L b2=⟨#[101,108,115,101]⟩
    ·have E3:Hid (r0=wnt C.L (b2 + 1) ⟨#[61,62]⟩ (thn (gram C.L .blk (b2 + 2)) fun z d=>wnt C.L d ⟨#[125]⟩ (some (.ok (stN 10 ⟨#[]⟩ tZ x (.bl z .nil) acc) (d + 1))))):=E2.out.trans (if_pos h1)
     go_wp2_with (first
      | (go_at_call 113; refine (next_any S.out.mv.ps ⟨#[101,108,115,101]⟩ (by decide)).mono ?_; rintro r w5 (⟨_,rfl,m5⟩ | ⟨hq,rfl,m5⟩); rotate_left; exact absurd h1 hq; have S5:=Lib.hid (S.out.to m5 hlt))
      | (go_at_call 115; (with_reducible show Calls _ _ #[_,.string ⟨#[61,62]⟩] _ _); refine (want_any S5.out.mv.ps ⟨#[61,62]⟩ (by decide)).mono ?_; rintro r w6 (⟨h6,rfl,m6⟩ | ⟨h6,rfl,m6⟩) <;> (have S6:=Lib.hid (S5.out.to m6 hlt)))
      | (go_at_call 122; refine (HB.out (b2 + 2) (by omega) _ S6.out.mv.ps).mono ?_; rintro r w7 (⟨z,d,vb,hgz,rfl,hsb,m7⟩ | ⟨d,hgz,rfl,m7⟩) <;> (have S7:=Lib.hid (S6.out.to m7 hlt)) <;> (have hz6:=S6.out.box.lt))
      | ((with_reducible show wpList _ _ _ (Oper.mk (some 54) (.buildSlice _ _ _) _ _ _ _ :: _) _ _)
         obtain ⟨Ab,nb,cb,hv,_⟩:=Sl.shape hsb
         refine wpList_plain rfl fun _ hK=>wp_bsB _ rfl Ab nb cb hv (hK _ _ ?_)
         have ff:_∧_∧_:=S7.out.fill hlt hv hsb (fun i hi=>Nat.lt_of_lt_of_le hz6 hi)
         obtain ⟨f1,f3,f4⟩:=ff
         have F1:=Lib.hid f1
         clear f1)
      | ((with_reducible show Calls _ _ #[_,.string ⟨#[125]⟩] _ _); refine (want_any F1.out.mv.ps ⟨#[125]⟩ (by decide)).mono ?_; rintro r w8 (⟨h8,rfl,m8⟩ | ⟨h8,rfl,m8⟩) <;> (have F2:=Lib.hid (F1.out.to m8 hlt)))
      | ((with_reducible show wpList _ _ _ (Oper.mk (some 58) (.load 44 (.tmp 3)) _ _ _ _ :: _) _ _); refine wpList_ldb rfl _ _ rfl _ _ _ rfl F2.out.box _ Tryz.underlying44 rfl HZ.out ?_)
      | ((with_reducible show wpList _ _ _ (Oper.mk none (.store 44 (.tmp 2) _) _ _ _ _ :: _) _ _); refine wpList_store_row rfl _ _ _ rfl _ rfl _ zSt _ F2.out.res rfl rfl (stC_one rfl rfl rfl) HZ.out ?_))
     ·refine bodyPost_ret (results_cell_row rfl _ _ w.heap.size _ _ (0,0) _ rfl (F2.out.res.row _) Tryz.underlying44 rfl HZ.out) rfl ?_
      exact F2.out.fin hlt (E3.out.trans ((if_pos h6).trans ((thn_ok hgz.out).trans (if_pos h8))))
     ·exact And.intro rfl (fin_bad F2.out.mv (E3.out.trans ((if_pos h6).trans ((thn_ok hgz.out).trans (if_neg h8)))))
     ·exact And.intro rfl (fin_bad S7.out.mv (E3.out.trans ((if_pos h6).trans (thn_bad hgz.out))))
     ·exact And.intro rfl (fin_bad S6.out.mv (E3.out.trans (if_neg h6)))
    ·have E3:Hid (r0=wnt C.L b2 ⟨#[125]⟩ (some (.ok (stN 10 ⟨#[]⟩ tZ x .nil acc) (b2 + 1)))):=E2.out.trans (if_neg h1)
     go_wp2_with (first
      | (go_at_call 113; refine (next_any S.out.mv.ps ⟨#[101,108,115,101]⟩ (by decide)).mono ?_; rintro r w5 (⟨hq,rfl,m5⟩ | ⟨_,rfl,m5⟩); exact absurd hq h1; have S5:=Lib.hid (S.out.to m5 hlt))
      | ((with_reducible show Calls _ _ #[_,.string ⟨#[125]⟩] _ _); refine (want_any S5.out.mv.ps ⟨#[125]⟩ (by decide)).mono ?_; rintro r w8 (⟨h8,rfl,m8⟩ | ⟨h8,rfl,m8⟩) <;> (have F2:=Lib.hid (S5.out.flat.to m8 hlt)))
      | ((with_reducible show wpList _ _ _ (Oper.mk (some 58) (.load 44 (.tmp 3)) _ _ _ _ :: _) _ _); refine wpList_ldb rfl _ _ rfl _ _ _ rfl F2.out.box _ Tryz.underlying44 rfl HZ.out ?_)
      | ((with_reducible show wpList _ _ _ (Oper.mk none (.store 44 (.tmp 2) _) _ _ _ _ :: _) _ _); refine wpList_store_row rfl _ _ _ rfl _ rfl _ zSt _ F2.out.res rfl rfl (stC_one rfl rfl rfl) HZ.out ?_))
     ·refine bodyPost_ret (results_cell_row rfl _ _ w.heap.size _ _ (0,0) _ rfl (F2.out.res.row _) Tryz.underlying44 rfl HZ.out) rfl ?_
      exact F2.out.fin hlt (E3.out.trans (if_pos h8))
     ·exact And.intro rfl (fin_bad F2.out.mv (E3.out.trans (if_neg h8)))
end Go.Proofs.YtmmnhbhnjiajhaaGreatDoor.c
