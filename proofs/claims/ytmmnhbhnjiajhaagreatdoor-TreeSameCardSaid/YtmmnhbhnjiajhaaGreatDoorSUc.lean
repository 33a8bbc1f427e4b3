/- Lists that grow; a block. Which bases may stand where. A variable's statement; a return. -/
import Derived.Test.YtmmnhbhnjiajhaaGreatDoorSUb
import Derived.Test.YtmmnhbhnjiajhaaGreatDoorSTw
import Derived.Test.YtmmnhbhnjiajhaaGreatDoorSTx
namespace Go.Proofs.YtmmnhbhnjiajhaaGreatDoor.c
open Go.RowKit
set_option linter.unusedVariables false
set_option maxRecDepth 100000
set_option maxHeartbeats 3200000
set_option linter.unusedSimpArgs false
theorem blk_lt {L:List Tok} (a:Nat):Po (fun _ c=>a < c) (gram L .blk a):=by
 rw [gram_eq]
 exact Po.wnt fun _=>(gram_le _ _).mono fun _ _ h=>h
theorem stm_lt {L:List Tok} (a:Nat):Po (fun _ c=>a < c) (gram L .stm a):=by
 have hc:∀ t b,a < b → Po (fun _ c=>a < c) (gram L t b):=fun t b h=>(gram_le t b).mono fun _ _ h2=>Nat.lt_of_lt_of_le h h2
 rw [gram_eq]
 simp only [stepG,stmS,varS,loopS,retS,choiceS,parS,valS]
 repeat' first
  | exact Po.bad _
  | refine Po.ite (fun _=>?_) (fun _=>?_)
  | refine Po.wnt fun _=>?_
  | refine Po.nam fun _=>?_
  | refine Po.thnO fun _ _=>?_
  | (refine Po.thn (ψ:=fun _ c=>a < c) (hc _ _ (by omega)) fun _ _ _=>?_)
  | (refine Po.thn (ψ:=fun _ c=>a < c) (blk_lt a) fun _ _ _=>?_)
  | (refine Po.thnT fun _ _ h=>?_; have:=typS_lt h)
  | exact Po.ok (by omega)
  | exact hc _ _ (by omega)
def Gw (lo:Nat) (E:TypeId) (k:Nat) (v:Value) (x:Nd) (wr:World):Prop:=∃ xs,wr.ownsRow lo E (szK k) v x.len xs∧Elems (vp (fun i=>lo ≤ i∧v.ownBlock ≠ some i) wr) x k xs
section
variable {lo k m:Nat} {E:TypeId} {v v':Value} {x y:Nd} {wr w2 w':World}
theorem Gw.nil (lo:Nat) (E:TypeId) (k:Nat) (wr:World):Gw lo E k sl0 .nil wr:=⟨[],⟨by simp [Nd.len],.inl ⟨rfl,rfl⟩⟩,rfl⟩
theorem Gw.px (h:Gw lo E k v x wr) (p:Px m wr w2) (hm:m < lo):Gw lo E k v x w2:=by
 obtain ⟨xs,h1,h2⟩:=h
 exact ⟨xs,own_px h1 p hm,h2.mono (vp_le fun b hb hl=>⟨hb,p.block b hl (by omega)⟩)⟩
theorem Gw.ext (h:Gw lo E k v x wr) (p:Ext wr w2):Gw lo E k v x w2:=by
 obtain ⟨xs,h1,h2⟩:=h
 refine ⟨xs,⟨h1.1,h1.2.imp id ?_⟩,h2.mono (vp_le fun b hb hl=>⟨hb,p.out.block b hl⟩)⟩
 rintro ⟨g,cap,cur,e,hb,hg,r⟩
 refine ⟨g,cap,cur,e,hb,?_,r⟩
 have hlt:g < wr.heap.size:=by
  rcases Nat.lt_or_ge g wr.heap.size with h1 | h1
  ·exact h1
  ·rw [Array.getElem?_eq_none h1] at hg; cases hg
 exact (p.out.block g hlt).trans hg
theorem Gw.sl (h:Gw lo E k v x wr):Sl (vp (lo ≤ ·) wr) v x k:=by
 obtain ⟨xs,h1,h2⟩:=h
 refine Sl.own h1 (h2.mono (vp_le fun b hb _=>⟨hb.1,rfl⟩)) ?_ rfl
 intro g hg
 rcases h1.2 with ⟨rfl,_⟩ | ⟨g',cap,cur,rfl,hb,_⟩
 ·cases hg
 ·cases hg; exact hb
theorem Gw.own_lt (h:Gw lo E k v x wr) {g:Nat} (hg:v.ownBlock=some g):lo ≤ g∧g < wr.heap.size:=by
 obtain ⟨xs,h1,h2⟩:=h
 rcases h1.2 with ⟨rfl,_⟩ | ⟨g',cap,cur,rfl,hb,hg',_⟩
 ·cases hg
 ·obtain rfl:g'=g:=Option.some.inj hg
  refine ⟨hb,?_⟩
  rcases Nat.lt_or_ge g' wr.heap.size with h1 | h1
  ·exact h1
  ·rw [Array.getElem?_eq_none h1] at hg'; cases hg'
theorem Gw.one (h:Gw lo E k v x wr):v.oneCell'=true:=by
 obtain ⟨xs,h1,h2⟩:=h
 rcases h1.2 with ⟨rfl,_⟩ | ⟨g',cap,cur,rfl,_⟩ <;> rfl
theorem Gw.grown {z:Nat} {cs:Array Value} {xs:List Value} (h1:w2.ownsRow lo E (szK k) v x.len xs) (h2:Elems (vp (fun i=>lo ≤ i∧v.ownBlock ≠ some i) w2) x k xs) (hn:Nv (vp (z ≤ ·) w2) k y cs) (hz:lo ≤ z) (hv:∀ g,v.ownBlock=some g → g < z)
  (r1:w'.ownsRow lo E (szK k) v' (x.len + 1) (xs ++ cs.toList)) (r2:w2.grownBy w' v.ownBlock) (r3:v'.ownBlock=v.ownBlock ∨ v'.ownBlock=some w2.heap.size):Gw lo E k v' (x.app y) w':=by
 refine ⟨xs ++ cs.toList,?_,Elems.app x y k _ _ (h2.mono (vp_le fun b hb hl=>⟨⟨hb.1,?_⟩,r2.block b hl fun e=>hb.2 e.symm⟩)) (hn.1.mono (vp_le fun b hb hl=>⟨⟨by omega,?_⟩,r2.block b hl fun e=>by have:=hv b e.symm; omega⟩))⟩
 ·rw [app_len,hn.2]; exact r1
 ·rcases r3 with r3 | r3 <;> rw [r3]
  ·exact hb.2
  ·intro e; cases e; omega
 ·rcases r3 with r3 | r3 <;> rw [r3]
  ·intro e; have:=hv b e; omega
  ·intro e; cases e; omega
end
def SM (C:Cx) (a:Nat):Prop:=∀ w,PS C a w → Calls Tryz.prog 174 #[Pp C] w (Out C w 1 (gram C.L .stm a))
theorem Mv.grown {C:Cx} {w w2 w':World} {b:Nat} {row:Option Nat} (h:Mv C w b w2) (hg:w2.grownBy w' row) (hr:∀ k,row=some k → w.heap.size ≤ k) (hm:C.m < w.heap.size):Mv C w b w':=by
 have hx:Px C.m w w':=h.px.grown hg hr
 refine ⟨⟨?_,h.ps.le,?_⟩,hx⟩
 ·exact h.ps.ext.grown hg fun k hk=>by have:=hr k hk; have:=C.hm; omega
 ·exact (hg.block C.m h.ps.lt fun e=>by have:=hr _ e.symm; omega).trans h.ps.blk
structure BkSt (C:Cx) (w:World) (b:Nat) (v:Value) (acc:Nd) (wr:World):Prop where
 mv:Mv C w b wr
 gw:Gw w.heap.size 44 1 v acc wr
section
variable {C:Cx} {w wr w2 w4 w':World} {b c:Nat} {v v':Value} {acc x:Nd} {cs:Array Value} {xs:List Value}
theorem BkSt.to (h:BkSt C w b v acc wr) (k:Mv C wr c w2) (hm:C.m < w.heap.size):BkSt C w c v acc w2:=⟨h.mv.trans k,h.gw.px k.px hm⟩
theorem BkSt.put (h:BkSt C w b v acc w2) (k:Mv C w2 c w4) (hm:C.m < w.heap.size) (hnv:Nv (vp (w2.heap.size ≤ ·) w4) 1 x cs)
  (h1:(w4.alloc (.cells cs 44)).ownsRow w.heap.size 44 (szK 1) v acc.len xs) (h2:Elems (vp (fun i=>w.heap.size ≤ i∧v.ownBlock ≠ some i) (w4.alloc (.cells cs 44))) acc 1 xs)
  (r1:w'.ownsRow w.heap.size 44 (szK 1) v' (acc.len + 1) (xs ++ cs.toList)) (r2:(w4.alloc (.cells cs 44)).grownBy w' v.ownBlock) (r3:v'.ownBlock=v.ownBlock ∨ v'.ownBlock=some (w4.alloc (.cells cs 44)).heap.size):BkSt C w c v' (acc.app x) w' :=
 ⟨((h.mv.trans k).to ((Ext.refl w4).alloc _)).grown r2 (fun _ hk=>(h.gw.own_lt hk).1) hm,Gw.grown h1 h2 (hnv.ext ((Ext.refl w4).alloc _) fun _ hi _=>hi) h.mv.px.size (fun _ hg=>(h.gw.own_lt hg).2) r1 r2 r3⟩
end
theorem block_any {C:Cx} {a:Nat} {w:World} (h:PS C a w) (HS0:∀ b,a < b → SM C b):Calls Tryz.prog 122 #[Pp C] w (OutL C w 1 (gram C.L .blk a)):=by
 have HZ:Hid ((Tryz.prog.info? 44).map (·.size)=some 10):=by unfold Hid; kernel_rfl
 have hlt:=h.lt
 have HP:=Lib.hid h
 have HS:=Lib.hid HS0
 have hlen:=C.len
 clear h HS0
 by_cases hx:tx C.L a=⟨#[123]⟩
 ·have e2:Hid (gram C.L .blk a=gram C.L (.sts .nil) (a + 1)):=by unfold Hid; rw [gram_eq]; exact if_pos hx
  go_enter Tryz.func122,Tryz.ntmps122
  go_wp2_with (first
   | (go_at_call 115; refine (want_any HP.out ⟨#[123]⟩ (by decide)).mono ?_; rintro r w1 (⟨_,rfl,h1⟩ | ⟨hq,rfl,h1⟩); rotate_left; exact absurd hx hq))
  have B0:Hid (BkSt C w (a + 1) sl0 .nil w1):=⟨h1,Gw.nil _ _ _ _⟩
  clear h1
  go_loopg [3] (C.L.length + 1 - (a + 1)) (fun n v wr=>∃ acc b,gram C.L .blk a=gram C.L (.sts acc) b∧a < b∧acc.len ≤ b∧C.L.length + 1 - b ≤ n∧BkSt C w b v acc wr)
  case atStart=>exact ⟨.nil,a + 1,e2.out,by omega,Nat.zero_le _,by omega,B0.out⟩
  case round =>
   clear B0 e2
   obtain ⟨acc,b,hg,hab,hln,hn,hp⟩:=hrel
   have HG:=Lib.hid hg
   have P1:=Lib.hid hp
   have hle:=hp.mv.ps.le
   have hzw:=hp.mv.px.size
   clear hg hp
   go_wp2_with (first
    | (go_at_call 113; refine (next_any P1.out.mv.ps ⟨#[125]⟩ (by decide)).mono ?_; rintro r w2 (⟨hx2,rfl,h2⟩ | ⟨hx2,rfl,h2⟩) <;> have G2:=Lib.hid (P1.out.to h2 hlt))
    | (go_at_call 174; refine (HS.out b hab _ G2.out.mv.ps).mono ?_; rintro r w4 (⟨x,c,cs,hg4,rfl,hnv,hmv⟩ | ⟨c,hg4,rfl,hmv⟩) <;> have G4:=Lib.hid (G2.out.to hmv hlt))
    | ((with_reducible show wpList _ _ _ (Oper.mk (some 12) (.buildSlice _ _ _) _ _ _ _ :: _) _ _); refine wpList_bsS rfl _ rfl cs rfl hnv.size ?_)
    | ((with_reducible show wpList _ _ _ (Oper.mk (some 13) (.call _) _ _ _ _ :: _) _ _)
       obtain ⟨xs,o1,o2⟩:=G4.out.gw.ext ((Ext.refl w4).alloc (.cells cs 44))
       have hz4:=G4.out.mv.px.size
       refine wpList_app1 Tryz.underlying34 infoSt rfl (by decide) (by decide) rfl _ _ rfl w.heap.size _ acc.len xs rfl o1 _ _ cs rfl (Blk.new w4 _ cs) hnv.size hnv.one (by omega) (by simp; omega) ?_
       intro v' w' r1 r2 r3))
   ·go_ret
    exact .inl ⟨acc,b + 1,_,by unfold Hid; rw [HG.out,gram_eq]; exact if_pos hx2,rfl,G2.out.gw.sl,G2.out.mv⟩
   ·have e4:gram C.L (.sts acc) b=gram C.L (.sts (acc.app x)) c:=by rw [gram_eq]; simp only [stepG,if_neg hx2,hg4.out]; rfl
    have hbc:b < c:=stm_lt _ _ _ hg4.out
    have hac:(acc.app x).len=acc.len + 1:=by rw [app_len,hnv.2]
    go_roundg (gk - 1)
    case measure=>omega
    case rel=>exact ⟨acc.app x,c,HG.out.trans e4,by omega,by omega,by omega,G2.out.put hmv hlt hnv o1 o2 r1 r2 r3⟩
   ·exact And.intro rfl (.inr ⟨c,by unfold Hid; rw [HG.out,gram_eq]; simp only [stepG,if_neg hx2,hg4.out]; rfl,rfl,G4.out.mv⟩)
 ·go_enter Tryz.func122,Tryz.ntmps122
  go_wp2_with (first
   | (go_at_call 115; refine (want_any HP.out ⟨#[123]⟩ (by decide)).mono ?_; rintro r w1 (⟨hq,rfl,h1⟩ | ⟨hq,rfl,h1⟩); exact absurd hq hx))
  exact And.intro rfl (.inr ⟨a,by unfold Hid; rw [gram_eq]; exact if_neg hx,rfl,h1⟩)
def OutY (C:Cx) (w:World) (r:Except Nat (Ty × Nat)) (e:Ending) (w':World):Prop :=
 (∃ t b,Hid (r=.ok (t,b))∧e=.returned (.agg #[.int .i64 t.base,.int .i64 t.bits,.string t.name,.bool t.opt,.bool t.err])∧Mv C w b w') ∨ ∃ b,Hid (r=.error b)∧e=.panicked (pan b)∧Mv C w b w'
theorem base_in {t:Ty} (h:isTypeS t=true):t.base=0 ∨ t.base=1 ∨ t.base=2 ∨ t.base=3 ∨ t.base=4 ∨ t.base=5:=by
 unfold isTypeS at h
 split at h
 ·omega
 ·split at h
  ·omega
  ·split at h
   ·omega
   ·split at h
    ·omega
    ·simp at h; omega
theorem enters_var:Enters 242 := Enters.of Tryz.func242 (by kernel_rfl) (by kernel_rfl)
theorem enters_dc1:Enters 117 := Enters.of Tryz.func117 (by kernel_rfl) (by kernel_rfl)
theorem enters_dc2:Enters 121 := Enters.of Tryz.func121 (by kernel_rfl) (by kernel_rfl)
theorem enters_par:Enters 173 := Enters.of Tryz.func173 (by kernel_rfl) (by kernel_rfl)
theorem enters_cnt:Enters 200 := Enters.of Tryz.func200 (by kernel_rfl) (by kernel_rfl)
theorem enters_whl:Enters 201 := Enters.of Tryz.func201 (by kernel_rfl) (by kernel_rfl)
theorem var_any (t:Ty) (w:World) (h:isTypeS t=true) (g:Laid w):Calls Tryz.prog 242 #[.agg (tyA t)] w fun r w'=>r=.returned (.bool (alS false true false true t.base))∧Ext w w':=by
 have hb:=base_in h
 have HB:=Lib.hid hb
 obtain ⟨ba,hba⟩:∃ ba,t.base=ba:=⟨_,rfl⟩
 unfold tyA
 rw [hba] at hb ⊢
 clear hba h
 rcases hb with rfl | rfl | rfl | rfl | rfl | rfl
 all_goals
  go_enter Tryz.func242,Tryz.ntmps242
  go_wp2_with (fail)
  go_ret
  exact ⟨rfl,exA⟩
theorem dc2_any (t:Ty) (w:World) (h:isTypeS t=true) (g:Laid w):Calls Tryz.prog 121 #[.agg (tyA t)] w fun r w'=>r=.returned (.bool (alS true true false true t.base))∧Ext w w':=by
 have hb:=base_in h
 have HB:=Lib.hid hb
 obtain ⟨ba,hba⟩:∃ ba,t.base=ba:=⟨_,rfl⟩
 unfold tyA
 rw [hba] at hb ⊢
 clear hba h
 rcases hb with rfl | rfl | rfl | rfl | rfl | rfl
 all_goals
  go_enter Tryz.func121,Tryz.ntmps121
  go_wp2_with (fail)
  go_ret
  exact ⟨rfl,exA⟩
theorem tisNumbers_any (b:Int) (w:World):Calls Tryz.prog 94 #[.int .i64 b] w fun r w'=>r=.returned (.bool (b == 2 || b == 3))∧w=w':=by
 by_cases h2:b=2
 ·subst h2
  go_enter Tryz.func94,Tryz.ntmps94
  go_wp2_with fail
  go_ret
  exact ⟨rfl,rfl⟩
 ·have hb:(b == 2)=false:=beq_eq_false_iff_ne.2 h2
  rw [hb]
  go_enter Tryz.func94,Tryz.ntmps94
  go_wp2_with fail
  go_ret
  exact ⟨rfl,rfl⟩
theorem dc1_any (t:Ty) (w:World) (h:isTypeS t=true) (g:Laid w):Calls Tryz.prog 117 #[.agg (tyA t)] w fun r w'=>r=.returned (.bool (alS false true false false t.base))∧Ext w w':=by
 have hb:=base_in h
 have HB:=Lib.hid hb
 obtain ⟨ba,hba⟩:∃ ba,t.base=ba:=⟨_,rfl⟩
 unfold tyA
 rw [hba] at hb ⊢
 clear hba h
 rcases hb with rfl | rfl | rfl | rfl | rfl | rfl
 all_goals
  go_enter Tryz.func117,Tryz.ntmps117
  go_wp2_with (first | (go_at_call 94; refine (tisNumbers_any _ _).mono ?_; rintro r w1 ⟨hr,rfl⟩; (first | (obtain rfl:r=.returned (.bool true):=hr) | (obtain rfl:r=.returned (.bool false):=hr))))
  go_ret
  exact ⟨rfl,exA⟩
theorem cnt_any (t:Ty) (w:World) (h:isTypeS t=true) (ho:t.opt=false) (he:t.err=false) (g:Laid w):Calls Tryz.prog 200 #[.agg (tyA t)] w fun r w'=>r=.returned (.bool (alS false false false true t.base))∧Ext w w':=by
 refine (isCount_any t w g).mono ?_
 rintro r w' ⟨rfl,x⟩
 refine ⟨?_,x⟩
 congr 2
 unfold isCountS isPlainS alS
 rw [h,ho,he]
 rcases base_in h with e | e | e | e | e | e <;> rw [e] <;> rfl
theorem whl_any (t:Ty) (w:World) (h:isTypeS t=true) (ho:t.opt=false) (he:t.err=false) (g:Laid w):Calls Tryz.prog 201 #[.agg (tyA t)] w fun r w'=>r=.returned (.bool (alS false true false true t.base))∧Ext w w':=by
 refine (isWhole_any t w g).mono ?_
 rintro r w' ⟨rfl,x⟩
 refine ⟨?_,x⟩
 congr 2
 unfold isWholeS isPlainS alS
 rw [h,ho,he]
 rcases base_in h with e | e | e | e | e | e <;> rw [e] <;> rfl
theorem typ_var {C:Cx} {a:Nat} {w:World} (h:PS C a w):Calls Tryz.prog 116 #[Pp C,.agg #[.bool true,.bool true,.func (.func 242) #[] #[]]] w (OutY C w (typS C.L a true true false true false true)) :=
 typed_any h true true false true false true _ _ enters_var fun ty w1 h1 h2 h3 _ x=>by
  rw [Array.append_empty]
  exact var_any ty w1 h1 (C.laid.ext x)
theorem typ_dc1 {C:Cx} {a:Nat} {w:World} (h:PS C a w):Calls Tryz.prog 116 #[Pp C,.agg #[.bool false,.bool false,.func (.func 117) #[] #[]]] w (OutY C w (typS C.L a false false false true false false)) :=
 typed_any h false false false true false false _ _ enters_dc1 fun ty w1 h1 h2 h3 _ x=>by
  rw [Array.append_empty]
  exact dc1_any ty w1 h1 (C.laid.ext x)
theorem typ_dc2 {C:Cx} {a:Nat} {w:World} (h:PS C a w):Calls Tryz.prog 116 #[Pp C,.agg #[.bool true,.bool true,.func (.func 121) #[] #[]]] w (OutY C w (typS C.L a true true true true false true)) :=
 typed_any h true true true true false true _ _ enters_dc2 fun ty w1 h1 h2 h3 _ x=>by
  rw [Array.append_empty]
  exact dc2_any ty w1 h1 (C.laid.ext x)
theorem typ_cnt {C:Cx} {a:Nat} {w:World} (h:PS C a w):Calls Tryz.prog 116 #[Pp C,.agg #[.bool false,.bool false,.func (.func 200) #[] #[]]] w (OutY C w (typS C.L a false false false false false true)) :=
 typed_any h false false false false false true _ _ enters_cnt fun ty w1 h1 h2 h3 _ x=>by
  rw [Array.append_empty]
  exact cnt_any ty w1 h1 (h3 rfl) (h2 rfl) (C.laid.ext x)
theorem typ_whl {C:Cx} {a:Nat} {w:World} (h:PS C a w):Calls Tryz.prog 116 #[Pp C,.agg #[.bool false,.bool false,.func (.func 201) #[] #[]]] w (OutY C w (typS C.L a false false false true false true)) :=
 typed_any h false false false true false true _ _ enters_whl fun ty w1 h1 h2 h3 _ x=>by
  rw [Array.append_empty]
  exact whl_any ty w1 h1 (h3 rfl) (h2 rfl) (C.laid.ext x)
structure Rc (C:Cx) (w:World) (t:TypeId) (zv cs:Array Value) (b:Nat) (wr:World):Prop where
 mv:Mv C w b wr
 res:Blk wr w.heap.size t zv
 box:Blk wr (w.heap.size + 1) t cs
section
variable {C:Cx} {w wr w2:World} {b c:Nat} {t:TypeId} {cs zv:Array Value}
theorem Rc.init (h:PS C b w) (t:TypeId) (zv cs:Array Value):Rc C w t zv cs b ((w.alloc (.cells zv t)).alloc (.cells cs t)) :=
 ⟨h.mv (((Ext.refl w).alloc _).alloc _),(Blk.new _ _ _).alloc _,by have q:=Blk.new (w.alloc (.cells zv t)) t cs; rw [size_alloc] at q; exact q⟩
theorem Rc.to (h:Rc C w t zv cs b wr) (k:Mv C wr c w2) (hm:C.m < w.heap.size):Rc C w t zv cs c w2:=⟨h.mv.trans k,h.res.px k.px (by omega),h.box.px k.px (by omega)⟩
theorem Rc.ext (h:Rc C w t zv cs b wr) (x:Ext wr w2):Rc C w t zv cs b w2:=⟨h.mv.to x,h.res.ext x,h.box.ext x⟩
theorem Rc.ps (h:Rc C w t zv cs b wr):PS C b wr:=h.mv.ps
theorem Rc.lt (h:Rc C w t zv cs b wr):w.heap.size + 1 < wr.heap.size:=h.box.lt
theorem Rc.set_ (h:Rc C w t zv cs b wr) (hm:C.m < w.heap.size) (i:Nat) (u:Value):Rc C w t zv (cs.setIfInBounds i u) b (wr.setCell ⟨w.heap.size + 1,i,none⟩ u) :=
 ⟨⟨⟨h.mv.ps.ext.setCell (p:=⟨w.heap.size + 1,i,none⟩) (by have:=C.hm; show C.w0.heap.size ≤ w.heap.size + 1; omega) _,h.mv.ps.le,h.mv.ps.blk.far (p:=⟨w.heap.size + 1,i,none⟩) (by show C.m ≠ w.heap.size + 1; omega) _⟩,h.mv.px.set_ (p:=⟨w.heap.size + 1,i,none⟩) (by show w.heap.size ≤ w.heap.size + 1; omega) u⟩,h.res.far (p:=⟨w.heap.size + 1,i,none⟩) (by show w.heap.size ≠ w.heap.size + 1; omega) _,h.box.set_ i u⟩
theorem Rc.fin {p:Nat → Prop} {k:Nat} {x:Nd} {r:Option Rs} {ds:Array Value} (R:Rc C w t zv cs b w2) (hm:C.m < w.heap.size) (hn:Nv (vp p w2) k x ds) (hp:∀ i,p i → w.heap.size < i ) (hr:r=some (.ok x b)):Out C w k r (.returned (.agg ds)) (w2.setRow w.heap.size ds) :=
 fin_row R.mv (by omega) hm hn (fun i hi _=>⟨by have:=hp i hi; omega,by have:=hp i hi; omega⟩) hr
end
section
variable {C:Cx} {w wr:World} {b:Nat} {t:TypeId} {zv:Array Value} {c0 c1 x2 x3 x4 x5 x6 c7 c8 c9:Value}
theorem Rc.typ (h:Rc C w t zv #[c0,c1,x2,x3,x4,x5,x6,c7,c8,c9] b wr) (hm:C.m < w.heap.size) (ty:Ty) :
  Rc C w t zv #[c0,c1,.int .i64 ty.base,.int .i64 ty.bits,.string ty.name,.bool ty.opt,.bool ty.err,c7,c8,c9] b (((((wr.setCell ⟨w.heap.size + 1,2,none⟩ (.int .i64 ty.base)).setCell ⟨w.heap.size + 1,3,none⟩ (.int .i64 ty.bits)).setCell ⟨w.heap.size + 1,4,none⟩ (.string ty.name)).setCell ⟨w.heap.size + 1,5,none⟩ (.bool ty.opt)).setCell ⟨w.heap.size + 1,6,none⟩ (.bool ty.err)) :=
 ((((h.set_ hm 2 (.int .i64 ty.base)).set_ hm 3 (.int .i64 ty.bits)).set_ hm 4 (.string ty.name)).set_ hm 5 (.bool ty.opt)).set_ hm 6 (.bool ty.err)
theorem Rc.five (h:Rc C w t zv #[c0,c1,x2,x3,x4,x5,x6,c7,c8,c9] b wr):(∀ i,wr.frozen? ⟨w.heap.size + 1,i,none⟩=false)∧wr.cell? ⟨w.heap.size + 1,2,none⟩=some x2∧wr.cell? ⟨w.heap.size + 1,3,none⟩=some x3∧wr.cell? ⟨w.heap.size + 1,4,none⟩=some x4∧wr.cell? ⟨w.heap.size + 1,5,none⟩=some x5∧wr.cell? ⟨w.heap.size + 1,6,none⟩=some x6 :=
 ⟨h.box.frozen,h.box.cell 2,h.box.cell 3,h.box.cell 4,h.box.cell 5,h.box.cell 6⟩
end
theorem stC_sl0 (op:Int) (nm:ByteArray) (ty:Ty):∀ u ∈ (stC op nm ty sl0 sl0 sl0).toList,u.oneCell'=true:=stC_one rfl rfl rfl
theorem variable_any {C:Cx} {a:Nat} {w:World} (h:PS C a w) (op:Int) (hw:(op=0∧tx C.L a=⟨#[118,97,114]⟩) ∨ (op=1∧tx C.L a=⟨#[99,111,110,115,116]⟩)) (HE0:∀ b,a < b → EX C b):Calls Tryz.prog 216 #[Pp C] w (Out C w 1 (varS C.L (gram C.L) (a + 1) op)):=by
 have HZ:Hid ((Tryz.prog.info? 44).map (·.size)=some 10):=by unfold Hid; kernel_rfl
 have hlt:=h.lt
 have R0:Hid (Rc C w 44 zSt (stC 1 ⟨#[]⟩ tZ sl0 sl0 sl0) a ((w.alloc (.cells zSt 44)).alloc (.cells (stC 1 ⟨#[]⟩ tZ sl0 sl0 sl0) 44))):=Rc.init h _ _ _
 have HE:=Lib.hid HE0
 clear h HE0
 go_enter Tryz.func216,Tryz.ntmps216
 go_upto_region 2 with fail
 go_cut [6] from 5 to 6 (fun c wx=>c=.bool (op == 0)∧Hid (Rc C w 44 zSt (stC 1 ⟨#[]⟩ tZ sl0 sl0 sl0) (if op=0 then a + 1 else a) wx))
 case first =>
  rcases hw with ⟨rfl,hx⟩ | ⟨rfl,hx⟩
  ·go_wp2_with (first
    | (go_at_call 113; refine (next_any R0.out.ps ⟨#[118,97,114]⟩ (by decide)).mono ?_; rintro r w1 (⟨_,rfl,h1⟩ | ⟨hq,rfl,h1⟩); rotate_left; exact absurd hx hq; have R1:=Lib.hid (R0.out.to h1 hlt)))
   go_meet
   exact ⟨rfl,R1⟩
  ·go_wp2_with (first
    | (go_at_call 113; refine (next_any R0.out.ps ⟨#[118,97,114]⟩ (by decide)).mono ?_; rintro r w1 (⟨hq,rfl,h1⟩ | ⟨_,rfl,h1⟩); exact absurd (hx.symm.trans hq) (by decide); have R1:=Lib.hid (R0.out.to h1 hlt)))
   go_meet
   exact ⟨rfl,R1⟩
 case rest =>
  obtain ⟨rfl,hR⟩:=hcut
  go_upto_if 6 with fail
  go_cut [] from 7 to 9 (fun wx=>Hid (Rc C w 44 zSt (stC op ⟨#[]⟩ tZ sl0 sl0 sl0) (a + 1) wx))
  case first =>
   rcases hw with ⟨rfl,hx⟩ | ⟨rfl,hx⟩
   ·have q0:wc.cell? ⟨w.heap.size + 1,0,none⟩=some (.int .i64 1):=hR.out.box.cell 0
    have qf:∀ i,wc.frozen? ⟨w.heap.size + 1,i,none⟩=false:=hR.out.box.frozen
    go_wp2_with fail
    go_meet
    exact hR.out.set_ hlt 0 (.int .i64 0)
   ·have hR1:Hid (Rc C w 44 zSt (stC 1 ⟨#[]⟩ tZ sl0 sl0 sl0) a wc):=hR
    go_wp2_with (first
     | (go_at_call 115; refine (want_any hR1.out.ps ⟨#[99,111,110,115,116]⟩ (by decide)).mono ?_; rintro r w1 (⟨_,rfl,h1⟩ | ⟨hq,rfl,h1⟩); rotate_left; exact absurd hx hq; have R1:=Lib.hid (hR1.out.to h1 hlt)))
    go_meet
    exact R1
  case rest =>
   clear hR
   rename Hid (Rc C w _ _ (stC op _ _ _ _ _) _ _)=>hR
   clear R0 hw
   have q1:wc.cell? ⟨w.heap.size + 1,1,none⟩=some (.string ⟨#[]⟩):=hR.out.box.cell 1
   by_cases hn:isW C.L (a + 1)=true
   ·go_upto_region 8 with (first
     | (go_at_call 114; refine (name_any hR.out.ps).mono ?_; rintro r w2 (⟨_,rfl,h2⟩ | ⟨hq,rfl,h2⟩); rotate_left; rw [hn] at hq; cases hq; have R2:=Lib.hid (hR.out.to h2 hlt); have q2:w2.cell? ⟨w.heap.size + 1,1,none⟩=some (.string ⟨#[]⟩):=R2.out.box.cell 1; have q3:=R2.out.box.frozen; have R3:=Lib.hid (R2.out.set_ hlt 1 (.string (tx C.L (a + 1)))))
     | (go_at_call 115; refine (want_any R3.out.ps ⟨#[58]⟩ (by decide)).mono ?_; rintro r w4 (⟨hx4,rfl,h4⟩ | ⟨hx4,rfl,h4⟩) <;> have R4:=Lib.hid (R3.out.to h4 hlt))
     | (go_at_call 116; refine (typ_var R4.out.ps).mono ?_; rintro r w5 (⟨ty,b,ht,rfl,h5⟩ | ⟨b,ht,rfl,h5⟩) <;> have R5:=Lib.hid (R4.out.to h5 hlt) <;> obtain ⟨ff,f2,f3,f4,f5,f6⟩:=Rc.five R5.out))
    ·have R6:Hid (Rc C w 44 zSt (stC op (tx C.L (a + 1)) ty sl0 sl0 sl0) b _):=Rc.typ R5.out hlt ty
     obtain ⟨w6,hw6⟩:∃ w6,(((((w5.setCell ⟨w.heap.size + 1,2,none⟩ (.int .i64 ty.base)).setCell ⟨w.heap.size + 1,3,none⟩ (.int .i64 ty.bits)).setCell ⟨w.heap.size + 1,4,none⟩ (.string ty.name)).setCell ⟨w.heap.size + 1,5,none⟩ (.bool ty.opt)).setCell ⟨w.heap.size + 1,6,none⟩ (.bool ty.err))=w6:=⟨_,rfl⟩
     rw [hw6] at R6 ⊢
     clear hw6 R5 R4 R3 R2 q2 q3 ff f2 f3 f4 f5 f6 hR q1
     have hab:a < b:=by have:=typS_lt ht.out; omega
     have HV:=Lib.hid (valued_any R6.out.ps op (tx C.L (a + 1)) ty true (HE.out (b + 1) (by omega)))
     go_wp2_with (first
      | ((with_reducible show wpList _ _ _ (Oper.mk (some 20) (.load 44 (.tmp 3)) _ _ _ _ :: _) _ _); refine wpList_ldb rfl _ _ rfl _ _ (stC op (tx C.L (a + 1)) ty sl0 sl0 sl0) rfl R6.out.box _ Tryz.underlying44 rfl HZ.out ?_)
      | (go_at_call 217; refine HV.out.mono ?_; clear HV; rintro r w7 (⟨x,c,cs,hg,rfl,hnv,hmv⟩ | ⟨c,hg,rfl,hmv⟩) <;> (have R7:=Lib.hid (R6.out.to hmv hlt)) <;> (have hz:=R6.out.lt))
      | ((with_reducible show wpList _ _ _ (Oper.mk none (.store 44 (.tmp 2) _) _ _ _ _ :: _) _ _); refine wpList_store_row rfl _ _ _ rfl _ rfl _ zSt _ R7.out.res rfl hnv.size hnv.one (by rw [show cs.size=10 from hnv.size]; exact HZ.out) ?_))
     ·refine bodyPost_ret (results_cell_row rfl _ _ w.heap.size _ cs (0,0) _ rfl (R7.out.res.row _) Tryz.underlying44 rfl (by rw [show cs.size=10 from hnv.size]; exact HZ.out)) rfl ?_
      exact R7.out.fin hlt hnv (fun i hi=>by omega) (by unfold varS nam; rw [if_pos hn]; unfold wnt; rw [if_pos hx4,ht.out]; exact hg.out)
     ·exact And.intro rfl (fin_bad R7.out.mv (by unfold varS nam; rw [if_pos hn]; unfold wnt; rw [if_pos hx4,ht.out]; exact hg.out))
    ·exact And.intro rfl (fin_bad R5.out.mv (by unfold varS nam; rw [if_pos hn]; unfold wnt; rw [if_pos hx4,ht.out]; rfl))
    ·exact And.intro rfl (fin_bad R4.out.mv (by unfold varS nam; rw [if_pos hn]; unfold wnt; rw [if_neg hx4]))
   ·go_wp2_with (first
     | (go_at_call 114; refine (name_any hR.out.ps).mono ?_; rintro r w2 (⟨hq,rfl,h2⟩ | ⟨_,rfl,h2⟩); exact absurd hq hn))
    exact And.intro rfl (fin_bad (hR.out.to h2 hlt).mv (by unfold varS nam; rw [if_neg hn]))
end Go.Proofs.YtmmnhbhnjiajhaaGreatDoor.c
