/- Lists that grow; a block. -/
import Derived.Test.YtmmnhbhnjiajhaaGreatDoorBUb
import Derived.Test.YtmmnhbhnjiajhaaGreatDoorBTw
namespace Go.Proofs.YtmmnhbhnjiajhaaGreatDoor.c
open Go.RowKit
set_option linter.unusedVariables false
set_option maxRecDepth 100000
set_option maxHeartbeats 3200000
set_option linter.unusedSimpArgs false
theorem blk_lt {L:List Tok} (a:Nat):Po (fun _ c=>a < c) (gram L .blk a):=by
 rw [gram_eq]
 exact Po.wnt fun _=>(gram_le _ _).mono fun _ _ h=>h
theorem stm_lt {L:List Tok} (a:Nat):Po (fun _ c=>a < c) (gram L .stm a):=by
 have hc:∀ t b,a < b → Po (fun _ c=>a < c) (gram L t b):=fun t b h=>(gram_le t b).mono fun _ _ h2=>Nat.lt_of_lt_of_le h h2
 rw [gram_eq]
 simp only [stepG,stmS,varS,loopS,retS,choiceS,parS,valS]
 repeat' first
  | exact Po.bad _
  | refine Po.ite (fun _=>?_) (fun _=>?_)
  | refine Po.wnt fun _=>?_
  | refine Po.nam fun _=>?_
  | refine Po.thnO fun _ _=>?_
  | (refine Po.thn (ψ:=fun _ c=>a < c) (hc _ _ (by omega)) fun _ _ _=>?_)
  | (refine Po.thn (ψ:=fun _ c=>a < c) (blk_lt a) fun _ _ _=>?_)
  | (refine Po.thnT fun _ _ h=>?_; have:=typS_lt h)
  | exact Po.ok (by omega)
  | exact hc _ _ (by omega)
def Gw (lo:Nat) (E:TypeId) (k:Nat) (v:Value) (x:Nd) (wr:World):Prop:=∃ xs,wr.ownsRow lo E (szK k) v x.len xs∧Elems (vp (fun i=>lo ≤ i∧v.ownBlock ≠ some i) wr) x k xs
section
variable {lo k m:Nat} {E:TypeId} {v v':Value} {x y:Nd} {wr w2 w':World}
theorem Gw.nil (lo:Nat) (E:TypeId) (k:Nat) (wr:World):Gw lo E k sl0 .nil wr:=⟨[],⟨by simp [Nd.len],.inl ⟨rfl,rfl⟩⟩,rfl⟩
theorem Gw.px (h:Gw lo E k v x wr) (p:Px m wr w2) (hm:m < lo):Gw lo E k v x w2:=by
 obtain ⟨xs,h1,h2⟩:=h
 exact ⟨xs,own_px h1 p hm,h2.mono (vp_le fun b hb hl=>⟨hb,p.block b hl (by omega)⟩)⟩
theorem Gw.ext (h:Gw lo E k v x wr) (p:Ext wr w2):Gw lo E k v x w2:=by
 obtain ⟨xs,h1,h2⟩:=h
 refine ⟨xs,⟨h1.1,h1.2.imp id ?_⟩,h2.mono (vp_le fun b hb hl=>⟨hb,p.out.block b hl⟩)⟩
 rintro ⟨g,cap,cur,e,hb,hg,r⟩
 refine ⟨g,cap,cur,e,hb,?_,r⟩
 have hlt:g < wr.heap.size:=by
  rcases Nat.lt_or_ge g wr.heap.size with h1 | h1
  ·exact h1
  ·rw [Array.getElem?_eq_none h1] at hg; cases hg
 exact (p.out.block g hlt).trans hg
theorem Gw.sl (h:Gw lo E k v x wr):Sl (vp (lo ≤ ·) wr) v x k:=by
 obtain ⟨xs,h1,h2⟩:=h
 refine Sl.own h1 (h2.mono (vp_le fun b hb _=>⟨hb.1,rfl⟩)) ?_ rfl
 intro g hg
 rcases h1.2 with ⟨rfl,_⟩ | ⟨g',cap,cur,rfl,hb,_⟩
 ·cases hg
 ·cases hg; exact hb
theorem Gw.own_lt (h:Gw lo E k v x wr) {g:Nat} (hg:v.ownBlock=some g):lo ≤ g∧g < wr.heap.size:=by
 obtain ⟨xs,h1,h2⟩:=h
 rcases h1.2 with ⟨rfl,_⟩ | ⟨g',cap,cur,rfl,hb,hg',_⟩
 ·cases hg
 ·obtain rfl:g'=g:=Option.some.inj hg
  refine ⟨hb,?_⟩
  rcases Nat.lt_or_ge g' wr.heap.size with h1 | h1
  ·exact h1
  ·rw [Array.getElem?_eq_none h1] at hg'; cases hg'
theorem Gw.one (h:Gw lo E k v x wr):v.oneCell'=true:=by
 obtain ⟨xs,h1,h2⟩:=h
 rcases h1.2 with ⟨rfl,_⟩ | ⟨g',cap,cur,rfl,_⟩ <;> rfl
theorem Gw.grown {z:Nat} {cs:Array Value} {xs:List Value} (h1:w2.ownsRow lo E (szK k) v x.len xs) (h2:Elems (vp (fun i=>lo ≤ i∧v.ownBlock ≠ some i) w2) x k xs) (hn:Nv (vp (z ≤ ·) w2) k y cs) (hz:lo ≤ z) (hv:∀ g,v.ownBlock=some g → g < z)
  (r1:w'.ownsRow lo E (szK k) v' (x.len + 1) (xs ++ cs.toList)) (r2:w2.grownBy w' v.ownBlock) (r3:v'.ownBlock=v.ownBlock ∨ v'.ownBlock=some w2.heap.size):Gw lo E k v' (x.app y) w':=by
 refine ⟨xs ++ cs.toList,?_,Elems.app x y k _ _ (h2.mono (vp_le fun b hb hl=>⟨⟨hb.1,?_⟩,r2.block b hl fun e=>hb.2 e.symm⟩)) (hn.1.mono (vp_le fun b hb hl=>⟨⟨by omega,?_⟩,r2.block b hl fun e=>by have:=hv b e.symm; omega⟩))⟩
 ·rw [app_len,hn.2]; exact r1
 ·rcases r3 with r3 | r3 <;> rw [r3]
  ·exact hb.2
  ·intro e; cases e; omega
 ·rcases r3 with r3 | r3 <;> rw [r3]
  ·intro e; have:=hv b e; omega
  ·intro e; cases e; omega
end
def SM (C:Cx) (a:Nat):Prop:=∀ w,PS C a w → Calls Tryz.prog 174 #[Pp C] w (Out C w 1 (gram C.L .stm a))
theorem Mv.grown {C:Cx} {w w2 w':World} {b:Nat} {row:Option Nat} (h:Mv C w b w2) (hg:w2.grownBy w' row) (hr:∀ k,row=some k → w.heap.size ≤ k) (hm:C.m < w.heap.size):Mv C w b w':=by
 have hx:Px C.m w w':=h.px.grown hg hr
 refine ⟨⟨?_,h.ps.le,?_⟩,hx⟩
 ·exact h.ps.ext.grown hg fun k hk=>by have:=hr k hk; have:=C.hm; omega
 ·exact (hg.block C.m h.ps.lt fun e=>by have:=hr _ e.symm; omega).trans h.ps.blk
structure BkSt (C:Cx) (w:World) (b:Nat) (v:Value) (acc:Nd) (wr:World):Prop where
 mv:Mv C w b wr
 gw:Gw w.heap.size 44 1 v acc wr
section
variable {C:Cx} {w wr w2 w4 w':World} {b c:Nat} {v v':Value} {acc x:Nd} {cs:Array Value} {xs:List Value}
theorem BkSt.to (h:BkSt C w b v acc wr) (k:Mv C wr c w2) (hm:C.m < w.heap.size):BkSt C w c v acc w2:=⟨h.mv.trans k,h.gw.px k.px hm⟩
theorem BkSt.put (h:BkSt C w b v acc w2) (k:Mv C w2 c w4) (hm:C.m < w.heap.size) (hnv:Nv (vp (w2.heap.size ≤ ·) w4) 1 x cs)
  (h1:(w4.alloc (.cells cs 44)).ownsRow w.heap.size 44 (szK 1) v acc.len xs) (h2:Elems (vp (fun i=>w.heap.size ≤ i∧v.ownBlock ≠ some i) (w4.alloc (.cells cs 44))) acc 1 xs)
  (r1:w'.ownsRow w.heap.size 44 (szK 1) v' (acc.len + 1) (xs ++ cs.toList)) (r2:(w4.alloc (.cells cs 44)).grownBy w' v.ownBlock) (r3:v'.ownBlock=v.ownBlock ∨ v'.ownBlock=some (w4.alloc (.cells cs 44)).heap.size):BkSt C w c v' (acc.app x) w' :=
 ⟨((h.mv.trans k).to ((Ext.refl w4).alloc _)).grown r2 (fun _ hk=>(h.gw.own_lt hk).1) hm,Gw.grown h1 h2 (hnv.ext ((Ext.refl w4).alloc _) fun _ hi _=>hi) h.mv.px.size (fun _ hg=>(h.gw.own_lt hg).2) r1 r2 r3⟩
end
theorem block_any {C:Cx} {a:Nat} {w:World} (h:PS C a w) (HS0:∀ b,a < b → SM C b):Calls Tryz.prog 122 #[Pp C] w (OutL C w 1 (gram C.L .blk a)):=by
 have HZ:Hid ((Tryz.prog.info? 44).map (·.size)=some 10):=by unfold Hid; kernel_rfl
 have hlt:=h.lt
 have HP:=Lib.hid h
 have HS:=Lib.hid HS0
 have hlen:=C.len
 clear h HS0
 by_cases hx:tx C.L a=⟨#[123]⟩
 ·have e2:Hid (gram C.L .blk a=gram C.L (.sts .nil) (a + 1)):=by unfold Hid; rw [gram_eq]; exact if_pos hx
  go_enter Tryz.func122,Tryz.ntmps122
  go_wp2_with (first
   | (go_at_call 115; refine (want_any HP.out ⟨#[123]⟩ (by decide)).mono ?_; rintro r w1 (⟨_,rfl,h1⟩ | ⟨hq,rfl,h1⟩); rotate_left; exact absurd hx hq))
  have B0:Hid (BkSt C w (a + 1) sl0 .nil w1):=⟨h1,Gw.nil _ _ _ _⟩
  clear h1
  go_loopg [3] (C.L.length + 1 - (a + 1)) (fun n v wr=>∃ acc b,gram C.L .blk a=gram C.L (.sts acc) b∧a < b∧acc.len ≤ b∧C.L.length + 1 - b ≤ n∧BkSt C w b v acc wr)
  case atStart=>exact ⟨.nil,a + 1,e2.out,by omega,Nat.zero_le _,by omega,B0.out⟩
  case round =>
   clear B0 e2
   obtain ⟨acc,b,hg,hab,hln,hn,hp⟩:=hrel
   have HG:=Lib.hid hg
   have P1:=Lib.hid hp
   have hle:=hp.mv.ps.le
   have hzw:=hp.mv.px.size
   clear hg hp
   go_wp2_with (first
    | (go_at_call 113; refine (next_any P1.out.mv.ps ⟨#[125]⟩ (by decide)).mono ?_; rintro r w2 (⟨hx2,rfl,h2⟩ | ⟨hx2,rfl,h2⟩) <;> have G2:=Lib.hid (P1.out.to h2 hlt))
    | (go_at_call 174; refine (HS.out b hab _ G2.out.mv.ps).mono ?_; rintro r w4 (⟨x,c,cs,hg4,rfl,hnv,hmv⟩ | ⟨c,hg4,rfl,hmv⟩) <;> have G4:=Lib.hid (G2.out.to hmv hlt))
    | ((with_reducible show wpList _ _ _ (Oper.mk (some 12) (.buildSlice _ _ _) _ _ _ _ :: _) _ _); refine wpList_bsS rfl _ rfl cs rfl hnv.size ?_)
    | ((with_reducible show wpList _ _ _ (Oper.mk (some 13) (.call _) _ _ _ _ :: _) _ _)
       obtain ⟨xs,o1,o2⟩:=G4.out.gw.ext ((Ext.refl w4).alloc (.cells cs 44))
       have hz4:=G4.out.mv.px.size
       refine wpList_app1 Tryz.underlying34 infoSt rfl (by decide) (by decide) rfl _ _ rfl w.heap.size _ acc.len xs rfl o1 _ _ cs rfl (Blk.new w4 _ cs) hnv.size hnv.one (by omega) (by simp; omega) ?_
       intro v' w' r1 r2 r3))
   ·go_ret
    exact .inl ⟨acc,b + 1,_,by unfold Hid; rw [HG.out,gram_eq]; exact if_pos hx2,rfl,G2.out.gw.sl,G2.out.mv⟩
   ·have e4:gram C.L (.sts acc) b=gram C.L (.sts (acc.app x)) c:=by rw [gram_eq]; simp only [stepG,if_neg hx2,hg4.out]; rfl
    have hbc:b < c:=stm_lt _ _ _ hg4.out
    have hac:(acc.app x).len=acc.len + 1:=by rw [app_len,hnv.2]
    go_roundg (gk - 1)
    case measure=>omega
    case rel=>exact ⟨acc.app x,c,HG.out.trans e4,by omega,by omega,by omega,G2.out.put hmv hlt hnv o1 o2 r1 r2 r3⟩
   ·exact And.intro rfl (.inr ⟨c,by unfold Hid; rw [HG.out,gram_eq]; simp only [stepG,if_neg hx2,hg4.out]; rfl,rfl,G4.out.mv⟩)
 ·go_enter Tryz.func122,Tryz.ntmps122
  go_wp2_with (first
   | (go_at_call 115; refine (want_any HP.out ⟨#[123]⟩ (by decide)).mono ?_; rintro r w1 (⟨hq,rfl,h1⟩ | ⟨hq,rfl,h1⟩); exact absurd hq hx))
  exact And.intro rfl (.inr ⟨a,by unfold Hid; rw [gram_eq]; exact if_neg hx,rfl,h1⟩)
end Go.Proofs.YtmmnhbhnjiajhaaGreatDoor.c
