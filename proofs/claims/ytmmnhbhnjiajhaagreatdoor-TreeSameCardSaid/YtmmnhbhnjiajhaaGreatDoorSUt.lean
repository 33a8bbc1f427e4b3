/- A declaration: a function. -/
import Derived.Test.YtmmnhbhnjiajhaaGreatDoorSUs
namespace Go.Proofs.YtmmnhbhnjiajhaaGreatDoor.c
open Go.RowKit
set_option linter.unusedVariables false
set_option maxRecDepth 100000
set_option maxHeartbeats 3200000
set_option linter.unusedSimpArgs false
def zNd:Nd:=.ex 0 tZ ⟨#[]⟩ 0 .nil .nil .nil
theorem ite_ok {α β:Type} {c:Prop} [Decidable c] {x y:α} {e:β} (h:(if c then Except.ok x else Except.error e)=(Except.ok y:Except β α)):c∧x=y:=by
 split at h
 ·exact ⟨‹c›,Except.ok.inj h⟩
 ·cases h
theorem typS_comma {L:List Tok} {a:Nat} {e o v b t n:Bool} {ty:Ty} {c:Nat} (h:typS L a e o v b t n=.ok (ty,c)):a < c∧tx L (c - 1) ≠ ⟨#[44]⟩:=by
 refine ⟨typS_lt h,fun hx=>?_⟩
 have hb:(baseS ⟨#[44]⟩).2=false:=by decide +kernel
 unfold typS at h
 simp only at h
 obtain ⟨hc,h2⟩:=ite_ok h
 have h3:=(Prod.mk.inj h2).2
 rw [← h3,Nat.add_sub_cancel] at hx
 rw [hx,hb] at hc
 exact absurd hc.2.1 (by decide)
theorem paS_comma {L:List Tok} {a:Nat} {x:Nd} {c:Nat} (h:paS L a=some (.ok x c)):a < c∧tx L (c - 1) ≠ ⟨#[44]⟩:=by
 have h2:∀ kn a',a ≤ a' → paS2 L kn a'=some (.ok x c) → a < c∧tx L (c - 1) ≠ ⟨#[44]⟩:=fun kn a' ha' h=>by
  have hp:Po (fun _ c=>a < c∧tx L (c - 1) ≠ ⟨#[44]⟩) (paS2 L kn a'):=Po.nam fun _=>Po.wnt fun _=>Po.thnT fun t b ht=>Po.ok (by have:=typS_comma ht; exact ⟨by omega,this.2⟩)
  exact hp x c h
 unfold paS at h
 split at h
 ·exact h2 true _ (by omega) h
 ·exact h2 false _ (Nat.le_refl _) h
def prS (L:List Tok) (acc:Nd) (b:Nat):Option Rs :=
 match paS L b with
 | none=>none
 | some (.bad k)=>some (.bad k)
 | some (.ok x c)=>if tx L c=⟨#[41]⟩ then some (.ok (acc.app x) (c + 1)) else if hc:tx L c=⟨#[44]⟩∧b ≤ c∧c < L.length then prS L (acc.app x) (c + 1) else some (.bad c)
termination_by L.length - b
theorem prS_bad {L:List Tok} {acc:Nd} {b k:Nat} (h:paS L b=some (.bad k)):prS L acc b=some (.bad k):=by
 rw [prS,h]
theorem prS_ok {L:List Tok} {acc x:Nd} {b c:Nat} (h:paS L b=some (.ok x c)):prS L acc b=if tx L c=⟨#[41]⟩ then some (.ok (acc.app x) (c + 1)) else wnt L c ⟨#[44]⟩ (prS L (acc.app x) (c + 1)):=by
 have hl:=paS_comma h
 rw [prS,h]
 simp only
 by_cases h1:tx L c=⟨#[41]⟩
 ·rw [if_pos h1,if_pos h1]
 ·rw [if_neg h1,if_neg h1]
  by_cases h2:tx L c=⟨#[44]⟩
  ·rw [dif_pos ⟨h2,by omega,lt_tx h2 (by decide)⟩]; exact (if_pos h2).symm
  ·rw [dif_neg (fun h=>h2 h.1)]; exact (if_neg h2).symm
noncomputable def fnF (L:List Tok) (nm:ByteArray) (ps:Nd) (b:Nat):Option Rs:=thnT (typS L b true true true true false true) fun t c=>thn (gram L .blk c) fun z d=>some (.ok (.de true nm ps t zNd z .nil) d)
noncomputable def fnS (L:List Tok) (a:Nat):Option Rs :=
 nam L a (wnt L (a + 1) ⟨#[40]⟩ (if tx L (a + 2)=⟨#[41]⟩ then fnF L (tx L a) .nil (a + 3) else thn (prS L .nil (a + 2)) (fnF L (tx L a))))
theorem fill_sev (z a b c d e f g:Value):Instr.fill (fun i=>some (i * 7,7)) ((Array.range (1 * 7)).map ((Value.agg zPa).cells[· % (Value.agg zPa).cells.size]!)) [(0,.agg #[a,b,c,d,e,f,g])]=some #[a,b,c,d,e,f,g]:=by kernel_rfl
theorem arr7 {cs:Array Value} (h:cs.size=7):∃ a b c d e f g,cs=#[a,b,c,d,e,f,g]:=by
 obtain ⟨l⟩:=cs
 match l,h with
 | [a,b,c,d,e,f,g],_=>exact ⟨a,b,c,d,e,f,g,rfl⟩
theorem wp_bsP {o:Oper} {a:Act} {Q:Exit → Act → World → Prop} {w:World} {K:Act → World → Prop} (x:Operand) (ho:o.op=.buildSlice 30 1 #[(0,x)]) (cs:Array Value) (hx:a.eval x=.agg cs) (hs:cs.size=7) (h:K (a.put o.dst (.slice (some ⟨w.heap.size,0,none⟩) 1 1)) (w.alloc (.cells cs 40))):o.wp Tryz.prog a w K Q:=by
 obtain ⟨i0,hi0,hz0,hz1,hz2⟩:=info_parts infoPa
 obtain ⟨a0,b0,c0,d0,e0,f0,g0,rfl⟩:=arr7 hs
 refine wp_buildSlice _ 40 1 _ ho _ i0 _ Tryz.underlying30 hi0 hz0 (by rw [hz1]; decide) (by rw [hz1]; decide) ?_ h
 rw [hz1,show (#[(0,x)].map fun (i,x)=>(i,a.eval x)).toList=[(0,.agg #[a0,b0,c0,d0,e0,f0,g0])] by simp [hx]]
 exact fill_sev sl0 ..
theorem deL_body {fn:Bool} {nm:ByteArray} {ps b c:Value} {ty:Ty}:(deL fn nm ps ty b).setIfInBounds 18 c=deL fn nm ps ty c:=by kernel_rfl
theorem deA_ex {fn:Bool} {nm:ByteArray} {ps b:Value} {ty:Ty}:deA fn nm ps ty zEx b=deL fn nm ps ty b:=by kernel_rfl
theorem nv_fn {V:Vw} {nm:ByteArray} {ps z:Nd} {va vb:Value} {ty:Ty} (h1:Sl V va ps 4) (h2:Sl V vb z 1):Nv V 5 (.de true nm ps ty zNd z .nil) (deL true nm va ty vb):=by
 rw [← deA_ex]
 exact nv_de h1 ⟨⟨rfl,sl0,sl0,[],rfl,Sl.nil V none 0 0,Sl.nil V none 0 1,rfl⟩,rfl⟩ h2
structure PdSt (C:Cx) (w:World) (g:Nat) (nm:ByteArray) (ty:Ty) (v:Value) (acc:Nd) (b:Nat) (wr:World):Prop where
 rd:Rd C w 38 zDe g (deL true nm v ty sl0) b wr
 gw:Gw (g + 1) 40 4 v acc wr
section
variable {C:Cx} {w wr w2 w4 w':World} {b c g:Nat} {nm:ByteArray} {ty:Ty} {v v':Value} {acc x:Nd} {cs:Array Value} {xs:List Value}
theorem PdSt.to (h:PdSt C w g nm ty v acc b wr) (k:Mv C wr c w2) (hm:C.m < w.heap.size):PdSt C w g nm ty v acc c w2:=have:=h.rd.hg; ⟨h.rd.to k hm,h.gw.px k.px (by omega)⟩
theorem PdSt.ext (h:PdSt C w g nm ty v acc b wr) (k:Ext wr w2):PdSt C w g nm ty v acc b w2:=⟨h.rd.ext k,h.gw.ext k⟩
theorem PdSt.ps (h:PdSt C w g nm ty v acc b wr):PS C b wr:=h.rd.mv.ps
theorem PdSt.put (h:PdSt C w g nm ty v acc b w2) (k:Mv C w2 c w4) (hm:C.m < w.heap.size) (hnv:Nv (vp (w2.heap.size ≤ ·) w4) 4 x cs)
  (h1:(w4.alloc (.cells cs 40)).ownsRow (g + 1) 40 (szK 4) v acc.len xs) (h2:Elems (vp (fun i=>g + 1 ≤ i∧v.ownBlock ≠ some i) (w4.alloc (.cells cs 40))) acc 4 xs)
  (r1:w'.ownsRow (g + 1) 40 (szK 4) v' (acc.len + 1) (xs ++ cs.toList)) (r2:(w4.alloc (.cells cs 40)).grownBy w' v.ownBlock) (r3:v'.ownBlock=v.ownBlock ∨ v'.ownBlock=some (w4.alloc (.cells cs 40)).heap.size) :
  Blk w' g 38 (deL true nm v ty sl0)∧PdSt C w g nm ty v' (acc.app x) c (w'.setCell ⟨g,2,none⟩ v'):=by
 have hg:=h.rd.hg
 have hgl:=h.rd.box.lt
 have hS:=(h.to k hm).ext ((Ext.refl w4).alloc (.cells cs 40))
 have ho:∀ q,v.ownBlock=some q → g + 1 ≤ q:=fun q hq=>(h.gw.own_lt hq).1
 have hgw:Gw (g + 1) 40 4 v' (acc.app x) w':=Gw.grown h1 h2 (hnv.ext ((Ext.refl w4).alloc _) fun _ hi _=>hi) (by omega) (fun _ hq=>(h.gw.own_lt hq).2) r1 r2 r3
 have hb:Blk w' g 38 (deL true nm v ty sl0):=(r2.block _ hS.rd.box.lt fun e=>by have:=ho _ e.symm; omega).trans hS.rd.box
 have hm1:Mv C w c w':=hS.rd.mv.grown r2 (fun q hq=>by have:=ho q hq; omega) hm
 have hr:Blk w' w.heap.size 38 zDe:=(r2.block _ hS.rd.res.lt fun e=>by have:=ho _ e.symm; omega).trans hS.rd.res
 have hR:Rd C w 38 zDe g (deL true nm v ty sl0) c w':=⟨hm1,hr,hg,hb⟩
 exact ⟨hb,hR.set_ hm 2 v',hgw.px ((Px.refl g w').setM 2 v') (by omega)⟩
theorem PdSt.typ (h:PdSt C w g nm tZ v acc b wr) (hm:C.m < w.heap.size) (ty:Ty):PdSt C w g nm ty v acc b (((((wr.setCell ⟨g,3,none⟩ (.int .i64 ty.base)).setCell ⟨g,4,none⟩ (.int .i64 ty.bits)).setCell ⟨g,5,none⟩ (.string ty.name)).setCell ⟨g,6,none⟩ (.bool ty.opt)).setCell ⟨g,7,none⟩ (.bool ty.err)) :=
 ⟨((((h.rd.set_ hm 3 (.int .i64 ty.base)).set_ hm 4 (.int .i64 ty.bits)).set_ hm 5 (.string ty.name)).set_ hm 6 (.bool ty.opt)).set_ hm 7 (.bool ty.err),
  h.gw.px (((((Px.refl g wr).setM 3 _).setM 4 _).setM 5 _).setM 6 _ |>.setM 7 _) (by omega)⟩
end
theorem decl_fn {C:Cx} {a:Nat} {w:World} (h:PS C a w) (hx:tx C.L a=⟨#[102,110]⟩):Calls Tryz.prog 64 #[Pp C] w (Out C w 5 (fnS C.L (a + 1))):=by
 have HZ:Hid ((Tryz.prog.info? 38).map (·.size)=some 19):=by unfold Hid; kernel_rfl
 have hlt:=h.lt
 have hlen:=C.len
 have R0:Hid (Rx C w 38 zDe a (w.alloc (.cells zDe 38))):=Rx.init h _ _
 generalize hr0:fnS C.L (a + 1)=r0
 have E0:=Lib.hid hr0.symm
 have hxc:¬ tx C.L a=⟨#[99,111,110,115,116]⟩:=by rw [hx]; decide
 clear h hr0
 go_enter Tryz.func64,Tryz.ntmps64
 go_wp2_with (first
  | (go_at_call 113; refine (next_any R0.out.ps ⟨#[99,111,110,115,116]⟩ (by decide)).mono ?_; rintro r w1 (⟨hq,rfl,m1⟩ | ⟨_,rfl,m1⟩); exact absurd hq hxc; have R1:=Lib.hid (R0.out.to m1 hlt))
  | ((with_reducible show Calls _ _ #[_,.string ⟨#[102,110]⟩] _ _); refine (want_any R1.out.ps ⟨#[102,110]⟩ (by decide)).mono ?_; rintro r w2 (⟨_,rfl,m2⟩ | ⟨hq,rfl,m2⟩); rotate_left; exact absurd hx hq; have R2:=Lib.hid (R1.out.to m2 hlt))
  | (go_at_call 114; refine (name_any R2.out.ps).mono ?_; rintro r w3 (⟨h3,rfl,m3⟩ | ⟨h3,rfl,m3⟩) <;> (have R3:=Lib.hid (R2.out.to m3 hlt)))
  | ((with_reducible show wpList _ _ _ (Oper.mk (some 28) (.build _ _) _ _ _ _ :: _) _ _); refine wpList_bld rfl _ _ rfl _ rfl (built_de1 _) ?_)
  | ((with_reducible show wpList _ _ _ (Oper.mk none (.store 38 (.tmp 4) (.tmp 28)) _ _ _ _ :: _) _ _); refine wpList_store_row rfl _ _ _ rfl w3.heap.size rfl 38 zDe (deL true (tx C.L (a + 1)) sl0 tZ sl0) (Blk.new _ _ zDe) rfl (deL_size.trans zDe_size.symm) (deL_one rfl rfl) (by rw [deL_size]; exact HZ.out) ?_; refine nameW fun w3' hw3=>?_; have D3:Hid (Rd C w 38 zDe w3.heap.size (deL true (tx C.L (a + 1)) sl0 tZ sl0) (a + 2) w3'):=(by rw [← hw3]; exact Rd.ofRow R3.out hlt _ _); clear hw3)
  | ((with_reducible show Calls _ _ #[_,.string ⟨#[40]⟩] _ _)
     have E2:=Lib.hid (E0.out.trans (if_pos h3))
     refine (want_any D3.out.ps ⟨#[40]⟩ (by decide)).mono ?_
     rintro r w4 (⟨h4,rfl,m4⟩ | ⟨h4,rfl,m4⟩) <;> (have D4:=Lib.hid (D3.out.to m4 hlt)) <;> (try have E9:=Lib.hid (E2.out.trans (if_pos h4)))))
 rotate_left
 ·exact And.intro rfl (fin_bad D4.out.mv (E2.out.trans (if_neg h4)))
 ·exact And.intro rfl (fin_bad R3.out.mv (E0.out.trans (if_neg (by rw [h3]; exact Bool.false_ne_true))))
 have hg0:=D4.out.hg
 have P0:Hid (PdSt C w w3.heap.size (tx C.L (a + 1)) tZ sl0 .nil (a + 3) w4):=⟨D4.out,Gw.nil _ _ _ _⟩
 generalize tx C.L (a + 1)=nm at P0 E9 ⊢
 clear R0 R1 R2 R3 D3 D4 E0 E2 h3 h4 m1 m2 m3 m4 hxc
 generalize w3.heap.size=g at P0 hg0 ⊢
 go_loopg [] (C.L.length + 1 - (a + 3)) (fun n wr=>∃ acc b v,((moreA C.L acc.len b → r0=thn (prS C.L acc b) (fnF C.L nm))∧(¬ moreA C.L acc.len b → r0=fnF C.L nm acc (b + 1)))∧a < b∧acc.len ≤ b∧C.L.length + 1 - b ≤ n∧PdSt C w g nm tZ v acc b wr)
 case atStart =>
  refine ⟨.nil,a + 3,sl0,⟨fun hm=>?_,fun hm=>?_⟩,by omega,Nat.zero_le _,Nat.le_refl _,P0.out⟩
  ·have:¬ tx C.L (a + 3)=⟨#[41]⟩:=by
    rcases hm with h | h
    ·exact h
    ·exact absurd h.1 (by simp [Nd.len])
   exact E9.out.trans (if_neg this)
  ·have:tx C.L (a + 3)=⟨#[41]⟩:=Classical.byContradiction fun h=>hm (.inl h)
   exact E9.out.trans (if_pos this)
 case round =>
  clear P0 E9
  obtain ⟨acc,b,v,hG,hab,hln,hn,hp⟩:=hrel
  obtain ⟨Av,cv,rfl⟩:=hp.gw.shapeN
  have HG:=Lib.hid hG
  have P1:=Lib.hid (hp.ext (Ext.refl wr).drew)
  have hle:=hp.rd.mv.ps.le
  clear hG hp
  go_upto_region 12 with fail
  go_cut [58] from 31 to 72 (fun c wx=>c=.bool (decide (moreA C.L acc.len b))∧Hid (PdSt C w g nm tZ (.slice Av acc.len cv) acc b wx))
  case first =>
   by_cases e1:tx C.L b=⟨#[41]⟩
   ·by_cases e2:0 < acc.len
    ·have hb1:b - 1 < C.L.length:=by have:=lt_tx e1 (by decide); omega
     have hww:IntKind.i64.wrap ((b:Int) - 1)=((b - 1:Nat):Int):=by rw [show (b:Int) - 1=((b - 1:Nat):Int) by omega]; exact IntWalk.i64_in _ (by omega)
     have e2i:(0:Int) < (acc.len:Int):=by omega
     have d8:wr.drew.cell? ⟨g,2,none⟩=some (.slice Av acc.len cv):=P1.out.rd.box.cell 2
     obtain ⟨hm0,d0,d1,hf0⟩:=P1.out.ps.facts
     obtain ⟨tb,tq,hA,htb,dt⟩:=P1.out.ps.tokAt hb1
     rw [hA] at d0
     have HA:=Lib.hid hA
     have hgl:=P1.out.rd.box.lt
     clear hA
     by_cases e3:tx C.L (b - 1)=⟨#[44]⟩
     ·rw [e3] at dt
      go_region_held3 (fun w'=>w'.cell? ⟨g,2,none⟩=some (.slice Av acc.len cv)∧w'.cell? ⟨C.m,0,none⟩=some (.slice (some ⟨tb,tq,none⟩) C.L.length C.cap)∧w'.cell? ⟨C.m,1,none⟩=some (.int .i64 b)∧w'.cell? ⟨tb,tq + (b - 1) * 3 + 2,none⟩=some (.string ⟨#[44]⟩)) (first | exact ⟨d8,d0,d1,dt⟩ | exact ⟨f8,c0,c1,ft⟩ | go_keep) (first
       | (go_at_call 119; refine (peek_any (w:=wr.drew) P1.out.ps).mono ?_; rw [e1]; rintro r w5 ⟨rfl,x5⟩; have P5:=Lib.hid (P1.out.ext x5); have f8:w5.cell? ⟨g,2,none⟩=some (.slice Av acc.len cv):=P5.out.rd.box.cell 2; obtain ⟨hm5,c0,c1,hf5⟩:=P5.out.ps.facts; rw [HA.out] at c0; have ft:w5.cell? ⟨tb,tq + (b - 1) * 3 + 2,none⟩=some (.string ⟨#[44]⟩):=(x5.cell (p:=⟨tb,tq + (b - 1) * 3 + 2,none⟩) htb).trans dt))
      go_wp2_with fail
      go_meet
      exact ⟨by rw [decide_eq_true (show moreA C.L acc.len b from .inr ⟨e2,e3⟩)],P5⟩
     ·have n3:=bs_nl [44] e3
      have HE3:=Lib.hid e3
      generalize tx C.L (b - 1)=sx at dt n3
      go_region_held3 (fun w'=>w'.cell? ⟨g,2,none⟩=some (.slice Av acc.len cv)∧w'.cell? ⟨C.m,0,none⟩=some (.slice (some ⟨tb,tq,none⟩) C.L.length C.cap)∧w'.cell? ⟨C.m,1,none⟩=some (.int .i64 b)∧w'.cell? ⟨tb,tq + (b - 1) * 3 + 2,none⟩=some (.string sx)) (first | exact ⟨d8,d0,d1,dt⟩ | exact ⟨f8,c0,c1,ft⟩ | go_keep) (first
       | (go_at_call 119; refine (peek_any (w:=wr.drew) P1.out.ps).mono ?_; rw [e1]; rintro r w5 ⟨rfl,x5⟩; have P5:=Lib.hid (P1.out.ext x5); have f8:w5.cell? ⟨g,2,none⟩=some (.slice Av acc.len cv):=P5.out.rd.box.cell 2; obtain ⟨hm5,c0,c1,hf5⟩:=P5.out.ps.facts; rw [HA.out] at c0; have ft:w5.cell? ⟨tb,tq + (b - 1) * 3 + 2,none⟩=some (.string sx):=(x5.cell (p:=⟨tb,tq + (b - 1) * 3 + 2,none⟩) htb).trans dt))
      go_wp2_with fail
      go_meet
      exact ⟨by rw [decide_eq_false (show ¬ moreA C.L acc.len b from fun h=>h.elim (fun h=>h e1) (fun h=>HE3.out h.2))],P5⟩
    ·have e2i:¬ (0:Int) < (acc.len:Int):=by omega
     have e2c:decide (0 < acc.len)=false:=decide_eq_false e2
     have e2b:decide ((0:Int) < (acc.len:Int))=false:=decide_eq_false e2i
     have d8:wr.drew.cell? ⟨g,2,none⟩=some (.slice Av acc.len cv):=by
      have q:wr.drew.cell? ⟨g,2,none⟩=some (.slice Av acc.len cv):=P1.out.rd.box.cell 2
      exact q
     refine rg_begin #[false,false,false,false,false,false,false,false,false,false,false,false,false,false,false,false,false,false,false,false,false,false,false,false,false,false,false,false] rfl (by kernel_rfl) (fun _ _ _ _ _ h=>h) (fun HQ=>?_)
     (refine ta 0 31 rfl HQ ?_; try simp only [putL,List.set])
     (refine ta 1 32 rfl HQ ?_; try simp only [putL,List.set])
     (refine ta 2 33 rfl HQ ?_; try simp only [putL,List.set])
     refine tf_call 3 rfl rfl (by go_simp) (peek_any (w:=wr.drew) P1.out.ps) ?_ ?_ ?_
     ·rintro rv w5 ⟨e,x5⟩
      cases e
      rw [e1]
      have P5:=Lib.hid (P1.out.ext x5)
      have f8:w5.cell? ⟨g,2,none⟩=some (.slice Av acc.len cv):=P5.out.rd.box.cell 2
      show wpAny _ _ _ _ _ _ (Act.put _ (some 34) _) _
      simp only [putL,List.set]
      (refine ta 4 35 rfl HQ ?_; try simp only [putL,List.set])
      (refine ta 5 36 rfl HQ ?_; try simp only [putL,List.set])
      (refine ta 6 37 rfl HQ ?_; try simp only [putL,List.set])
      (refine tf_val 7 38 rfl (exec_ld1 rfl rfl f8 Tryz.underlying30 rfl) ?_; simp only [putL,List.set])
      (refine ta 8 39 rfl HQ ?_; try simp only [putL,List.set])
      (refine ta 9 40 rfl HQ ?_; try simp only [putL,List.set])
      (refine ta 10 41 rfl HQ ?_; try simp only [putL,List.set])
      (refine ts 11 42 rfl HQ ?_; simp only [putL,List.set])
      (refine ts 12 43 rfl HQ ?_; simp only [putL,List.set])
      (refine ts 13 44 rfl HQ ?_; simp only [putL,List.set])
      (refine ts 14 45 rfl HQ ?_; simp only [putL,List.set])
      (refine ts 15 46 rfl HQ ?_; simp only [putL,List.set])
      (refine ts 16 47 rfl HQ ?_; simp only [putL,List.set])
      (refine ts 17 48 rfl HQ ?_; simp only [putL,List.set])
      (refine ts 18 49 rfl HQ ?_; simp only [putL,List.set])
      (refine ts 19 50 rfl HQ ?_; simp only [putL,List.set])
      (refine ts 20 51 rfl HQ ?_; simp only [putL,List.set])
      (refine ts 21 52 rfl HQ ?_; simp only [putL,List.set])
      (refine ts 22 53 rfl HQ ?_; simp only [putL,List.set])
      (refine ts 23 54 rfl HQ ?_; simp only [putL,List.set])
      (refine ts 24 55 rfl HQ ?_; simp only [putL,List.set])
      (refine ts 25 56 rfl HQ ?_; simp only [putL,List.set])
      (refine ta 26 57 rfl HQ ?_; try simp only [putL,List.set])
      (refine ta 27 58 rfl HQ ?_; try simp only [putL,List.set])
      refine wp_end ?_
      go_wp2_with fail
      go_meet
      exact ⟨by rw [decide_eq_false (show ¬ moreA C.L acc.len b from fun h=>h.elim (fun h=>h e1) (fun h=>e2 h.1))],P5⟩
     ·rintro c w5 ⟨e,_⟩; cases e
     ·rintro w5 ⟨e,_⟩; cases e
   ·have n1:=bs_nl [41] e1
    refine rg_begin #[false,false,false,false,false,false,false,false,false,false,false,false,false,false,false,false,false,false,false,false,false,false,false,false,false,false,false,false] rfl (by kernel_rfl) (fun _ _ _ _ _ h=>h) (fun HQ=>?_)
    (refine ta 0 31 rfl HQ ?_; try simp only [putL,List.set])
    (refine ta 1 32 rfl HQ ?_; try simp only [putL,List.set])
    (refine ta 2 33 rfl HQ ?_; try simp only [putL,List.set])
    refine tf_call 3 rfl rfl (by go_simp) (peek_any (w:=wr.drew) P1.out.ps) ?_ ?_ ?_
    ·rintro rv w5 ⟨e,x5⟩
     cases e
     have P5:=Lib.hid (P1.out.ext x5)
     show wpAny _ _ _ _ _ _ (Act.put _ (some 34) _) _
     simp only [putL,List.set]
     (refine ta 4 35 rfl HQ ?_; try simp only [putL,List.set])
     (refine ta 5 36 rfl HQ ?_; try simp only [putL,List.set])
     (refine ts 6 37 rfl HQ ?_; simp only [putL,List.set])
     (refine ts 7 38 rfl HQ ?_; simp only [putL,List.set])
     (refine ts 8 39 rfl HQ ?_; simp only [putL,List.set])
     (refine ts 9 40 rfl HQ ?_; simp only [putL,List.set])
     (refine ts 10 41 rfl HQ ?_; simp only [putL,List.set])
     (refine ts 11 42 rfl HQ ?_; simp only [putL,List.set])
     (refine ts 12 43 rfl HQ ?_; simp only [putL,List.set])
     (refine ts 13 44 rfl HQ ?_; simp only [putL,List.set])
     (refine ts 14 45 rfl HQ ?_; simp only [putL,List.set])
     (refine ts 15 46 rfl HQ ?_; simp only [putL,List.set])
     (refine ts 16 47 rfl HQ ?_; simp only [putL,List.set])
     (refine ts 17 48 rfl HQ ?_; simp only [putL,List.set])
     (refine ts 18 49 rfl HQ ?_; simp only [putL,List.set])
     (refine ts 19 50 rfl HQ ?_; simp only [putL,List.set])
     (refine ts 20 51 rfl HQ ?_; simp only [putL,List.set])
     (refine ts 21 52 rfl HQ ?_; simp only [putL,List.set])
     (refine ts 22 53 rfl HQ ?_; simp only [putL,List.set])
     (refine ts 23 54 rfl HQ ?_; simp only [putL,List.set])
     (refine ts 24 55 rfl HQ ?_; simp only [putL,List.set])
     (refine ts 25 56 rfl HQ ?_; simp only [putL,List.set])
     (refine ts 26 57 rfl HQ ?_; simp only [putL,List.set])
     (refine ta 27 58 rfl HQ ?_; try simp only [putL,List.set])
     refine wp_end ?_
     go_wp2_with fail
     go_meet
     exact ⟨by rw [decide_eq_true (show moreA C.L acc.len b from .inl e1)],P5⟩
    ·rintro c w5 ⟨e,_⟩; cases e
    ·rintro w5 ⟨e,_⟩; cases e
  case rest =>
   clear P1
   obtain ⟨rfl,S⟩:=hcut
   by_cases hm:moreA C.L acc.len b
   ·rw [decide_eq_true hm]
    have E1:=Lib.hid (HG.out.1 hm)
    clear HG
    have S1:=Lib.hid (S.out.ext (Ext.refl wc).drew)
    go_upto_region 13 with fail
    refine rg_begin #[false,false,false,false,false,false,false,false] rfl (by kernel_rfl) (fun _ _ _ _ _ h=>h) (fun HQ=>?_)
    (refine ta 0 59 rfl HQ ?_; try simp only [putL,List.set])
    (refine ta 2 61 rfl HQ ?_; try simp only [putL,List.set])
    refine th 1 60 2 [3,4,5,6,7] [⟨some 62,_,_,_,_,_⟩,⟨some 63,_,_,_,_,_⟩,⟨some 64,_,_,_,_,_⟩,⟨some 65,_,_,_,_,_⟩,⟨none,_,_,_,_,_⟩] (fun w'=>w'.cell? ⟨g,2,none⟩=some (.slice Av acc.len cv)) rfl rfl rfl HQ (S1.out.rd.box.cell 2) (fun w' hB=>exec_ld1 rfl rfl hB Tryz.underlying30 rfl) ?_
    simp only [putL,List.set]
    refine ly_call rfl (by go_simp) (param_any S1.out.ps) ?_ ?_ ?_
    ·rintro rv w6 (⟨x,c,cs,hg6,e,hnv,m6⟩ | ⟨c,hg6,e,m6⟩)
     ·cases e
      have G6:=Lib.hid (S1.out.to m6 hlt)
      refine ⟨G6.out.rd.box.cell 2,?_⟩
      simp only [putL,List.set]
      refine ly_op rfl (wp_bsP _ rfl cs rfl hnv.size ?_)
      refine ⟨(G6.out.ext ((Ext.refl w6).alloc (.cells cs 40))).rd.box.cell 2,?_⟩
      show wpList _ _ _ _ _ _
      simp only [putL,List.set]
      obtain ⟨xs,o1,o2⟩:=G6.out.gw.ext ((Ext.refl w6).alloc (.cells cs 40))
      have hz6:=G6.out.rd.box.lt
      refine wpList_app1 Tryz.underlying30 infoPa rfl (by decide) (by decide) rfl _ _ rfl (g + 1) _ acc.len xs rfl o1 _ _ cs rfl (Blk.new w6 _ cs) hnv.size hnv.one (by omega) (by simp only [World.size_alloc]; omega) ?_
      intro v' w' r1 r2 r3
      have hadd:=S1.out.put m6 hlt hnv o1 o2 r1 r2 r3
      have hb':=hadd.1
      have F3:=Lib.hid hadd.2
      obtain ⟨A',n',c',rfl⟩:=hadd.2.gw.shape
      have qf:=hb'.frozen
      have q2:w'.cell? ⟨g,2,none⟩=some (.slice Av acc.len cv):=hb'.cell 2
      have hac:(acc.app x).len=acc.len + 1:=by rw [app_len,hnv.2]
      obtain ⟨hbc,hcm1⟩:=paS_comma hg6.out
      have E2:Hid (r0=thn (if tx C.L c=⟨#[41]⟩ then some (.ok (acc.app x) (c + 1)) else wnt C.L c ⟨#[44]⟩ (prS C.L (acc.app x) (c + 1))) (fnF C.L nm)):=E1.out.trans (by rw [prS_ok hg6.out])
      clear hadd hb' o1 o2 r1 r2 r3 hnv G6 S1 S E1 m6 hg6
      simp only [putL,List.set]
      by_cases e1:tx C.L c=⟨#[41]⟩
      ·go_wp2_with (first
        | (go_at_call 119; refine (peek_any F3.out.ps).mono ?_; rw [e1]; rintro r w7 ⟨rfl,x7⟩; have F4:=Lib.hid (F3.out.ext x7)))
       have hno:¬ moreA C.L (acc.app x).len c:=fun h=>h.elim (fun h=>h e1) (fun h=>hcm1 h.2)
       go_roundg (gk - 1)
       case measure=>omega
       case rel=>exact ⟨acc.app x,c,_,⟨fun h=>absurd h hno,fun _=>E2.out.trans (by rw [if_pos e1]; rfl)⟩,by omega,by omega,by omega,F4.out⟩
      ·have n1:=bs_nl [41] e1
       go_wp2_with (first
        | (go_at_call 119; refine (peek_any F3.out.ps).mono ?_; rintro r w7 ⟨rfl,x7⟩; have F4:=Lib.hid (F3.out.ext x7))
        | (go_at_call 115; refine (want_any F4.out.ps ⟨#[44]⟩ (by decide)).mono ?_; rintro r w8 (⟨h8',rfl,m8⟩ | ⟨h8',rfl,m8⟩) <;> (have F5:=Lib.hid (F4.out.to m8 hlt))))
       ·have hye:moreA C.L (acc.app x).len (c + 1):=.inr ⟨by omega,by rw [Nat.add_sub_cancel]; exact h8'⟩
        go_roundg (gk - 1)
        case measure=>omega
        case rel=>exact ⟨acc.app x,c + 1,_,⟨fun _=>E2.out.trans (by rw [if_neg e1]; exact congrArg (fun p=>thn p (fnF C.L nm)) (if_pos h8')),fun h=>absurd hye h⟩,by omega,by omega,by omega,F5.out⟩
       ·exact And.intro rfl (fin_bad F5.out.rd.mv (E2.out.trans (by rw [if_neg e1]; exact congrArg (fun p=>thn p (fnF C.L nm)) (if_neg h8'))))
     ·cases e
    ·rintro c w6 (⟨x,c',cs,hg6,e,hnv,m6⟩ | ⟨c',hg6,e,m6⟩)
     ·cases e
     ·cases e
      exact And.intro rfl (fin_bad (S1.out.to m6 hlt).rd.mv (E1.out.trans (by rw [prS_bad hg6.out]; rfl)))
    ·rintro w6 (⟨x,c',cs,hg6,e,hnv,m6⟩ | ⟨c',hg6,e,m6⟩) <;> cases e
   ·rw [decide_eq_false hm]
    have E1:=Lib.hid (HG.out.2 hm)
    have e1:tx C.L b=⟨#[41]⟩:=Classical.byContradiction fun h=>hm (.inl h)
    clear HG
    go_upto_region 18 with (first
     | (go_at_call 115; refine (want_any S.out.ps ⟨#[41]⟩ (by decide)).mono ?_; rintro r w6 (⟨_,rfl,m6⟩ | ⟨hq,rfl,m6⟩); rotate_left; exact absurd e1 hq; have F2:=Lib.hid (S.out.to m6 hlt))
     | (go_at_call 116; refine (typ_dc2 F2.out.ps).mono ?_; rintro r w7 (⟨ty,b7,ht,rfl,m7⟩ | ⟨b7,ht,rfl,m7⟩) <;> (have F3:=Lib.hid (F2.out.to m7 hlt)) <;> (obtain ⟨ff,f1,f2,f3,f4,f5⟩:=Rd.fiveD F3.out.rd)))
    rotate_left
    ·exact And.intro rfl (fin_bad F3.out.rd.mv (E1.out.trans (by unfold fnF; rw [ht.out]; rfl)))
    have F4:=Lib.hid (F3.out.typ hlt ty)
    have E3:Hid (r0=thn (gram C.L .blk b7) fun z d=>some (.ok (.de true nm acc ty zNd z .nil) d)):=E1.out.trans (by unfold fnF; rw [ht.out]; rfl)
    obtain ⟨w8,hw8⟩:∃ w8,(((((w7.setCell ⟨g,3,none⟩ (.int .i64 ty.base)).setCell ⟨g,4,none⟩ (.int .i64 ty.bits)).setCell ⟨g,5,none⟩ (.string ty.name)).setCell ⟨g,6,none⟩ (.bool ty.opt)).setCell ⟨g,7,none⟩ (.bool ty.err))=w8:=⟨_,rfl⟩
    rw [hw8] at F4 ⊢
    clear hw8 F3 F2 S E1 ff f1 f2 f3 f4 f5 m6 m7 ht
    go_upto_region 19 with (first
     | (go_at_call 122
        refine ((all_any C b7).bl _ F4.out.ps).mono ?_
        rintro r w9 (⟨z,c9,v9,hg9,rfl,hnv,m9⟩ | ⟨c9,hg9,rfl,m9⟩) <;> (have F5:=Lib.hid (F4.out.to m9 hlt)) <;> (have hz9:=F4.out.rd.box.lt) <;> (try (obtain ⟨A9,n9,k9,rfl,h19⟩:=hnv.shape)) <;> (have q18:w9.cell? ⟨g,18,none⟩=some sl0:=F5.out.rd.box.cell 18) <;> (have qf:=F5.out.rd.box.frozen)))
    rotate_left
    ·exact And.intro rfl (fin_bad F5.out.rd.mv (E3.out.trans (thn_bad hg9.out)))
    have E4:=Lib.hid (E3.out.trans (thn_ok hg9.out))
    refine nameW fun w10 hw10=>?_
    have D6:Hid (Rd C w 38 zDe g (deL true nm (.slice Av acc.len cv) ty (.slice A9 n9 k9)) c9 w10):=by rw [← hw10,← deL_body]; exact F5.out.rd.set_ hlt 18 _
    have G6:Hid (Gw (g + 1) 40 4 (.slice Av acc.len cv) acc w10):=by rw [← hw10]; exact F5.out.gw.px ((Px.refl g w9).setM 18 _) (Nat.lt_succ_self g)
    have S6:Hid (Sl (vp (g + 1 ≤ ·) w10) (.slice A9 n9 k9) z 1):=by rw [← hw10]; exact hnv.px ((Px.refl g w9).setM 18 _) fun i hi _=>⟨by omega,by omega⟩
    clear hw10 F5 F4 E3 hnv q18 qf m9 hg9 hz9 h19
    go_wp2_with (first
     | ((with_reducible show wpList _ _ _ (Oper.mk (some 82) (.load 38 (.tmp 4)) _ _ _ _ :: _) _ _); refine wpList_ldb rfl _ _ rfl g 38 (deL true nm (.slice Av acc.len cv) ty (.slice A9 n9 k9)) rfl D6.out.box _ Tryz.underlying38 rfl (by rw [deL_size]; exact HZ.out) ?_)
     | ((with_reducible show wpList _ _ _ (Oper.mk none (.store 38 (.tmp 2) _) _ _ _ _ :: _) _ _); refine wpList_store_row rfl _ _ _ rfl w.heap.size rfl 38 zDe (deL true nm (.slice Av acc.len cv) ty (.slice A9 n9 k9)) D6.out.res rfl (deL_size.trans zDe_size.symm) (deL_one rfl rfl) (by rw [deL_size]; exact HZ.out) ?_))
    refine bodyPost_ret (results_cell_row rfl _ _ w.heap.size _ (deL true nm (.slice Av acc.len cv) ty (.slice A9 n9 k9)) (0,0) _ rfl (D6.out.res.row _) Tryz.underlying38 rfl (by rw [deL_size]; exact HZ.out)) rfl ?_
    exact D6.out.fin hlt (nv_fn G6.out.sl S6.out) (fun i hi=>by have:=D6.out.hg; omega) E4.out
end Go.Proofs.YtmmnhbhnjiajhaaGreatDoor.c
