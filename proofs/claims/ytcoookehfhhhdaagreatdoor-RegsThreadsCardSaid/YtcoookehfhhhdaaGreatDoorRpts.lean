/- Contracts of the reference's isHeight, ways. Conditions: sizes; for ways that the height is right. Memory of the reference's pairs: its maps, its marks, its queue. No condition. Contract of the reference's pairs. Conditions: what right code is good for. -/
import Derived.Test.YtcoookehfhhhdaaGreatDoorRval
import Derived.Test.YtcoookehfhhhdaaGreatDoorReach
import Derived.Test.YtcoookehfhhhdaaGreatDoorRange
import Derived.Deep.OwnRows
import Derived.Deep.LoopGhost
import Derived.Test.YtcoookehfhhhdaaGreatDoorQue
namespace Go.Proofs.YtcoookehfhhhdaaGreatDoor.c
open Go.RowKit
set_option linter.unusedVariables false
set_option maxRecDepth 100000
set_option maxHeartbeats 6400000
set_option linter.unusedSimpArgs false
theorem takes_cells (x:Cd) (w:World):Calls Tryz.prog 108 #[.agg #[.int .i64 x.op,.int .i64 x.a,.int .i64 x.b,.int .i64 x.ty.base,.int .i64 x.ty.bits,.string x.ty.name,.bool x.ty.opt,.bool x.ty.err,.string x.name]] w fun e w'=>e=.returned (.tuple #[.int .i64 (takesS x),.int .i64 (putsS x)])∧Ext w w':=takes_any x w
theorem okH_in (x:Cd) (h:Int):inB h (takesS x) 64=okH x h:=by
 unfold inB okH
 rw [Bool.eq_iff_iff]
 simp
theorem isHeight_any (fn:ByteArray) (fp fpl:Int) (T:Ty) (A:Option Addr) (cap:Nat) (c:List Cd) (k:Nat) (h:Int) (x:Cd) (w:World) (hA:CdAt w A c) (hk:k < c.length) (hn:c.length ≤ 9223372036854775806) (hx:x=c.getD k default) :
  Calls Tryz.prog 62 #[.agg #[.string fn,.int .i64 fp,.int .i64 fpl,.int .i64 T.base,.int .i64 T.bits,.string T.name,.bool T.opt,.bool T.err,.slice A c.length cap],.int .i64 k,.int .i64 h] w fun e w'=>e=.returned (.bool (okH x h))∧Ext w w':=by
 obtain ⟨b,off,rfl,hb,c0,c1,c2,c3,c4,c5,c6,c7,c8⟩:=hA.at_ hk hx
 generalize c.length=len at *
 clear hA hx
 go_enter Tryz.func62,Tryz.ntmps62
 go_wp2_with (first
  | (go_at_call 108; refine (takes_cells x _).mono ?_; rintro r w1 ⟨rfl,x1⟩)
  | (go_at_call 58; refine (rwithin_any _ _ _ _).mono ?_; rw [okH_in]; rintro r w' ⟨rfl,rfl⟩))
 go_ret
 exact ⟨rfl,exA⟩
def waysX (x:Cd) (k h:Int):List (Int × Int):=(bif goesS x then [(k + 1,behS x h)] else []) ++ (bif leadsS x.op then [(x.a,leadH x h)] else [])
theorem waysX_eq (c:List Cd) (p:Int × Int):waysS c p=waysX (xAt c p) p.1 p.2:=rfl
def PrAt (w:World) (base:Nat) (v:Value) (L:List (Int × Int)):Prop :=
 (L=[]∧v=.slice none 0 0) ∨ ∃ g,v=.slice (some ⟨g,0,none⟩) L.length L.length∧base ≤ g∧Blk w g 161 (qcells L).toArray
section
variable {x:Cd} {k h:Int}
theorem ways_jump (e:(x.op == 14)=true):waysX x k h=[(x.a,h - takesS x + putsS x)]:=by
 have h0:=eq_of_beq e
 have e1:goesS x=false:=by rw [goes_iff,h0]; rfl
 have e2:leadsS x.op=true:=by rw [h0]; rfl
 have e3:(x.op == 12)=false:=by rw [h0]; rfl
 unfold waysX leadH behS
 rw [e1,e2,e3]; rfl
theorem ways_stop (e:(x.op == 17)=true ∨ (x.op == 19)=true):waysX x k h=[]:=by
 rcases e with e | e
 all_goals
  have h0:=eq_of_beq e
  have e1:goesS x=false:=by rw [goes_iff,h0]; rfl
  have e2:leadsS x.op=false:=by rw [h0]; rfl
  unfold waysX
  rw [e1,e2]; rfl
theorem ways_two (e:(x.op == 15)=true ∨ (x.op == 13)=true):waysX x k h=[(k + 1,h - takesS x + putsS x),(x.a,h - takesS x + putsS x)]:=by
 rcases e with e | e
 all_goals
  have h0:=eq_of_beq e
  have e1:goesS x=true:=by rw [goes_iff,h0]; rfl
  have e2:leadsS x.op=true:=by rw [h0]; rfl
  have e3:(x.op == 12)=false:=by rw [h0]; rfl
  unfold waysX leadH behS
  rw [e1,e2,e3]; rfl
theorem ways_null (e:(x.op == 12)=true):waysX x k h=[(k + 1,h),(x.a,h - 1)]:=by
 have h0:=eq_of_beq e
 have e1:goesS x=true:=by rw [goes_iff,h0]; rfl
 have e2:leadsS x.op=true:=by rw [h0]; rfl
 obtain ⟨t1,t2⟩:=lead12 e
 unfold waysX leadH behS
 rw [e1,e2,e,t1,t2]
 simp only [cond_true,List.cons_append,List.nil_append]
 rw [show h - 1 + 1=h by omega]
theorem ways_next (e1:(x.op == 14)=false) (e2:(x.op == 17)=false) (e3:(x.op == 19)=false) (e4:(x.op == 15)=false) (e5:(x.op == 13)=false) (e6:(x.op == 12)=false):waysX x k h=[(k + 1,h - takesS x + putsS x)]:=by
 unfold waysX leadsS behS
 rw [goes_iff,e1,e2,e3,e4,e5,e6]; rfl
end
theorem ways_any (fn:ByteArray) (fp fpl:Int) (T:Ty) (A:Option Addr) (cap:Nat) (c:List Cd) (k:Nat) (h:Int) (x:Cd) (w:World) (hA:CdAt w A c) (hk:k < c.length) (hn:c.length ≤ 2000) (hx:x=c.getD k default) (hh:okH x h=true) (ht:0 ≤ takesS x) :
  Calls Tryz.prog 107 #[.agg #[.string fn,.int .i64 fp,.int .i64 fpl,.int .i64 T.base,.int .i64 T.bits,.string T.name,.bool T.opt,.bool T.err,.slice A c.length cap],.int .i64 k,.int .i64 h] w fun e w'=>∃ v,e=.returned v∧Ext w w'∧PrAt w' w.heap.size v (waysX x k h):=by
 obtain ⟨b,off,rfl,hb,c0,c1,c2,c3,c4,c5,c6,c7,c8⟩:=hA.at_ hk hx
 obtain ⟨h1,h2⟩:=okH_le hh
 obtain ⟨h3,h4⟩:=puts_le x
 generalize c.length=len at *
 clear hA hx hh
 go_enter Tryz.func107,Tryz.ntmps107
 go_wp2_with (first
  | (go_at_call 108
     refine (takes_cells x _).mono ?_
     rintro r w1 ⟨rfl,x1⟩
     have hb1:Blk w1 (w.heap.size + 1) 63 #[.int .i64 x.op,.int .i64 x.a,.int .i64 x.b,.int .i64 x.ty.base,.int .i64 x.ty.bits,.string x.ty.name,.bool x.ty.opt,.bool x.ty.err,.string x.name]:=by
      refine Blk.ext ?_ x1
      have h9:=Blk.new (w.alloc (.cells #[.string fn,.int .i64 fp,.int .i64 fpl,.int .i64 T.base,.int .i64 T.bits,.string T.name,.bool T.opt,.bool T.err,.slice (some ⟨b,off,none⟩) len cap] 48)) 63 #[.int .i64 x.op,.int .i64 x.a,.int .i64 x.b,.int .i64 x.ty.base,.int .i64 x.ty.bits,.string x.ty.name,.bool x.ty.opt,.bool x.ty.err,.string x.name]
      rwa [size_alloc] at h9
     have e0:=hb1.cell 0
     have e1:=hb1.cell 1
     have z1:=hb1.lt
     clear hb1
     simp only [List.getElem?_toArray,List.getElem?_cons_zero,List.getElem?_cons_succ] at e0 e1))
 all_goals
  go_ret
  refine ⟨_,rfl,exA,?_⟩
  first
   | (rw [ways_jump (by assumption)]; exact .inr ⟨_,rfl,by first | omega | (simp; omega),Blk.new _ _ _⟩)
   | (rw [ways_stop (.inl (by assumption))]; exact .inl ⟨rfl,rfl⟩)
   | (rw [ways_stop (.inr (by assumption))]; exact .inl ⟨rfl,rfl⟩)
   | (rw [ways_two (.inl (by assumption))]; exact .inr ⟨_,rfl,by first | omega | (simp; omega),Blk.new _ _ _⟩)
   | (rw [ways_two (.inr (by assumption))]; exact .inr ⟨_,rfl,by first | omega | (simp; omega),Blk.new _ _ _⟩)
   | (rw [ways_null (by assumption)]; exact .inr ⟨_,rfl,by first | omega | (simp; omega),Blk.new _ _ _⟩)
   | (rw [ways_next (by assumption) (by assumption) (by assumption) (by assumption) (by assumption) (by assumption)]; exact .inr ⟨_,rfl,by first | omega | (simp; omega),Blk.new _ _ _⟩)
theorem isHeight_len (f:Fc) {len:Nat} (hl:len=f.code.length) {k:Nat} {h:Int} {x:Cd} (w:World) (hA:CdAt w f.A f.code) (hk:k < len) (hn:len ≤ 9223372036854775806) (hx:x=xAt f.code ((k:Int),h)) :
  Calls Tryz.prog 62 #[.agg #[.string f.name,.int .i64 f.params,.int .i64 f.places,.int .i64 f.ty.base,.int .i64 f.ty.bits,.string f.ty.name,.bool f.ty.opt,.bool f.ty.err,.slice f.A len f.cap],.int .i64 k,.int .i64 h] w fun e w'=>e=.returned (.bool (okH x h))∧Ext w w':=by
 subst hl
 exact isHeight_any _ _ _ _ _ _ _ _ _ x w hA hk hn hx
theorem ways_at (f:Fc) {len:Nat} (hl:len=f.code.length) {k:Nat} {h:Int} {x:Cd} (w:World) (hA:CdAt w f.A f.code) (hk:k < len) (hn:len ≤ 2000) (hx:x=xAt f.code ((k:Int),h)) (hh:okH x h=true) (ht:0 ≤ takesS x) :
  Calls Tryz.prog 107 #[.agg #[.string f.name,.int .i64 f.params,.int .i64 f.places,.int .i64 f.ty.base,.int .i64 f.ty.bits,.string f.ty.name,.bool f.ty.opt,.bool f.ty.err,.slice f.A len f.cap],.int .i64 k,.int .i64 h] w fun e w'=>∃ v,e=.returned v∧Ext w w'∧PrAt w' w.heap.size v (waysS f.code ((k:Int),h)):=by
 subst hl
 refine (ways_any _ _ _ _ _ _ _ _ _ x w hA hk hn hx hh ht).mono ?_
 rw [waysX_eq,← hx]
 exact fun _ _ h=>h

open Classical in
noncomputable def rowV (S:List (Int × Int)) (i:Int):Value → Option Value:=fun x=>if ∃ h,(i,h) ∈ S∧x=.int .i64 h then some (.bool true) else none
section
variable {S:List (Int × Int)} {i a h:Int}
theorem rowV_in (e:(i,h) ∈ S):rowV S i (.int .i64 h)=some (.bool true):=by
 unfold rowV
 rw [if_pos ⟨h,e,rfl⟩]
theorem rowV_out (e:(i,h) ∉ S):rowV S i (.int .i64 h)=none:=by
 unfold rowV
 rw [if_neg]
 rintro ⟨k,hk,e2⟩
 cases e2
 exact e hk
theorem rowV_nil:rowV [] i=fun _=>none:=by
 funext x
 unfold rowV
 rw [if_neg]
 rintro ⟨k,hk,_⟩
 cases hk
theorem rowV_other (e:i ≠ a):rowV ((a,h) :: S) i=rowV S i:=by
 funext x
 unfold rowV
 congr 1
 rw [eq_iff_iff]
 constructor
 ·rintro ⟨k,hk,e2⟩
  rcases List.mem_cons.1 hk with hk | hk
  ·cases hk; exact absurd rfl e
  ·exact ⟨k,hk,e2⟩
 ·rintro ⟨k,hk,e2⟩
  exact ⟨k,List.mem_cons_of_mem _ hk,e2⟩
theorem rowV_self {x:Value} (e:x ≠ .int .i64 h):rowV ((a,h) :: S) a x=rowV S a x:=by
 unfold rowV
 congr 1
 rw [eq_iff_iff]
 constructor
 ·rintro ⟨k,hk,e2⟩
  rcases List.mem_cons.1 hk with hk | hk
  ·cases hk; exact absurd e2 e
  ·exact ⟨k,hk,e2⟩
 ·rintro ⟨k,hk,e2⟩
  exact ⟨k,List.mem_cons_of_mem _ hk,e2⟩
theorem rowV_some {x:Value} (e:rowV S i x ≠ none):∃ h,(i,h) ∈ S∧x=.int .i64 h:=by
 unfold rowV at e
 by_cases c:∃ h,(i,h) ∈ S∧x=.int .i64 h
 ·exact c
 ·rw [if_neg c] at e; exact absurd rfl e
end
structure MkSt (w0 w:World) (f:Fc) (k:Nat):Prop where
 ext:Ext w0 w
 sz:w.heap.size=w0.heap.size + 2 + k
 fbox:FcBox w w0.heap.size f
 row:RowAt w (w0.heap.size + 1) 61 f.code.length (fun j=>if j < k then .map (some (w0.heap.size + 2 + j)) else .map none)
 maps:∀ i,i < k → MapAt w 3 (w0.heap.size + 2 + i) 0 (fun _=>none)
theorem MkSt.begin (f:Fc) (w:World):MkSt w ((w.alloc (.cells #[.string f.name,.int .i64 f.params,.int .i64 f.places,.int .i64 f.ty.base,.int .i64 f.ty.bits,.string f.ty.name,.bool f.ty.opt,.bool f.ty.err,.slice f.A f.code.length f.cap] 48)).alloc (.cells (madeCells #[.map none] f.code.length) 61)) f 0:=by
 refine ⟨((Ext.refl _).alloc _).alloc _,by simp,⟨(Blk.new w _ _).alloc _⟩,?_,fun i hi=>by omega⟩
 have h:=RowAt.made (w.alloc (.cells #[.string f.name,.int .i64 f.params,.int .i64 f.places,.int .i64 f.ty.base,.int .i64 f.ty.bits,.string f.ty.name,.bool f.ty.opt,.bool f.ty.err,.slice f.A f.code.length f.cap] 48)) 61 (.map none) f.code.length
 rw [size_alloc] at h
 exact h.same fun j hj=>by rw [if_neg (by omega)]
theorem MkSt.next {w0 w:World} {f:Fc} {k:Nat} (s:MkSt w0 w f k):MkSt w0 ((w.setCell ⟨w0.heap.size + 1,k,none⟩ (.map (some w.heap.size))).alloc (.map #[] 0)) f (k + 1):=by
 have x:∀ w:World,Ext w (w.alloc (.map #[] 0)):=fun w=>(Ext.refl _).alloc _
 refine ⟨(s.ext.setCell (by simp) _).alloc _,by simp [s.sz]; omega,⟨(s.fbox.out.far (by simp) _).alloc _⟩,?_,fun i hi=>?_⟩
 ·refine RowAt.ext ?_ (x _)
  refine s.row.set_ fun j hj=>?_
  by_cases e:j=k
  ·subst e
   rw [if_pos (by omega),if_pos rfl,s.sz]
  ·rw [if_neg e]
   by_cases e2:j < k
   ·rw [if_pos (by omega),if_pos e2]
   ·rw [if_neg (by omega),if_neg e2]
 ·rcases Nat.lt_or_ge i k with h | h
  ·exact ((s.maps i h).setCell (by first | (simp; done) | (simp; omega)) _).ext (x _)
  ·obtain rfl:i=k:=by omega
   have:=MapAt.made (w.setCell ⟨w0.heap.size + 1,i,none⟩ (.map (some w.heap.size))) 3
   rwa [show (w.setCell ⟨w0.heap.size + 1,i,none⟩ (.map (some w.heap.size))).heap.size=w0.heap.size + 2 + i by simp [s.sz]] at this
structure RfSt (w0 w:World) (f:Fc) (v:Value) (S T:List (Int × Int)) (O:Int → Bool):Prop where
 ext:Ext w0 w
 sz:w0.heap.size + 4 + f.code.length ≤ w.heap.size
 fbox:FcBox w w0.heap.size f
 seenc:RowAt w (w0.heap.size + 1) 61 f.code.length (fun j=>.map (some (w0.heap.size + 2 + j)))
 maps:∀ i,i < f.code.length → ∃ m,MapAt w 3 (w0.heap.size + 2 + i) m (rowV S i)
 outc:RowAt w (w0.heap.size + 2 + f.code.length) 4 f.code.length (fun j=>.bool (O j))
 que:Que w (w0.heap.size + 3 + f.code.length) v T
section
variable {w0 w w':World} {f:Fc} {v v':Value} {S T T':List (Int × Int)} {O:Int → Bool}
theorem RfSt.ext' (s:RfSt w0 w f v S T O) (x:Ext w w'):RfSt w0 w' f v S T O :=
 ⟨s.ext.trans x,by have:=s.sz; have:=x.size; omega,s.fbox.ext x,s.seenc.ext x,fun i hi=>let ⟨m,hm⟩:=s.maps i hi; ⟨m,hm.ext x⟩,s.outc.ext x,s.que.ext x⟩
theorem RfSt.alloc (s:RfSt w0 w f v S T O) (o:Obj):RfSt w0 (w.alloc o) f v S T O:=s.ext' ((Ext.refl _).alloc o)
theorem RfSt.pop (s:RfSt w0 w f v S T O) (q:Que w (w0.heap.size + 3 + f.code.length) v' T'):RfSt w0 w f v' S T' O:=⟨s.ext,s.sz,s.fbox,s.seenc,s.maps,s.outc,q⟩
theorem RfSt.qne (s:RfSt w0 w f v S T O) {k:Nat} (hk:k < w0.heap.size + 3 + f.code.length):v.ownBlock ≠ some k:=fun e=>by
 have:=(s.que.block e).1
 omega
theorem RfSt.mapped (s:RfSt w0 w f v S T O) {a h:Int} {i:Nat} (hi:i < f.code.length) (ha:a=i) (g:w.grownBy w' (some (w0.heap.size + 2 + i))) {m:Nat} (hm:MapAt w' 3 (w0.heap.size + 2 + i) m (rowV ((a,h) :: S) a)):RfSt w0 w' f v ((a,h) :: S) T O:=by
 subst ha
 refine ⟨s.ext.grown g (fun k e=>by have:=Option.some.inj e; omega),Nat.le_trans s.sz g.size,⟨s.fbox.out.grown g (fun e=>by have:=Option.some.inj e; omega)⟩,s.seenc.grown g (fun e=>by have:=Option.some.inj e; omega),fun j hj=>?_,s.outc.grown g (fun e=>by have:=Option.some.inj e; omega),s.que.grown g (s.qne (by omega))⟩
 by_cases e:j=i
 ·subst e
  exact ⟨m,hm⟩
 ·obtain ⟨m2,h2⟩:=s.maps j hj
  refine ⟨m2,?_⟩
  rw [rowV_other (by omega)]
  exact h2.grown g (fun e2=>by have:=Option.some.inj e2; omega)
theorem RfSt.marked (s:RfSt w0 w f v S T O) {a:Int} {i:Nat} (hi:i < f.code.length) (ha:a=i):RfSt w0 (w.setCell ⟨w0.heap.size + 2 + f.code.length,i,none⟩ (.bool true)) f v S T (setO O a true):=by
 subst ha
 refine ⟨s.ext.setCell (by first | (simp; done) | (simp; omega)) _,by simp; exact s.sz,⟨s.fbox.out.far (by first | (simp; done) | (simp; omega)) _⟩,s.seenc.far (by first | (simp; done) | (simp; omega)) _,fun j hj=>?_,?_,s.que.setCell (s.qne (by first | (simp; done) | (simp; omega))) _⟩
 ·obtain ⟨m2,h2⟩:=s.maps j hj
  exact ⟨m2,h2.setCell (by first | (simp; done) | (simp; omega)) _⟩
 ·refine s.outc.set_ fun j hj=>?_
  unfold setO
  by_cases e:j=i
  ·subst e
   rw [if_pos rfl,if_pos rfl,Bool.or_true]
  ·rw [if_neg (by omega),if_neg e]
theorem RfSt.pushed (s:RfSt w0 w f v S T O) (g:w.grownBy w' v.ownBlock) (q:Que w' (w0.heap.size + 3 + f.code.length) v' T'):RfSt w0 w' f v' S T' O:=by
 obtain ⟨gq,off,cap,hv,hb,hlt,hob⟩:=s.que.slice
 rw [hob] at g
 have ne:∀ k,k < w0.heap.size + 3 + f.code.length → some k ≠ some gq:=fun k hk e=>by have:=Option.some.inj e; omega
 refine ⟨s.ext.grown g (fun k e=>by have:=Option.some.inj e; omega),Nat.le_trans s.sz g.size,⟨s.fbox.out.grown g (ne _ (by omega))⟩,s.seenc.grown g (ne _ (by omega)),fun j hj=>?_,s.outc.grown g (ne _ (by omega)),q⟩
 obtain ⟨m2,h2⟩:=s.maps j hj
 exact ⟨m2,h2.grown g (ne _ (by omega))⟩
theorem RfSt.begin (s:MkSt w0 w f f.code.length):RfSt w0 ((w.alloc (.cells (madeCells #[.bool false] f.code.length) 4)).alloc (.cells #[.int .i64 0,.int .i64 0] 161)) f (.slice (some ⟨w.heap.size + 1,0,none⟩) 1 1) [] [(0,0)] (fun _=>false):=by
 have x:Ext w ((w.alloc (.cells (madeCells #[.bool false] f.code.length) 4)).alloc (.cells #[.int .i64 0,.int .i64 0] 161)):=((Ext.refl _).alloc _).alloc _
 refine ⟨s.ext.trans x,by simp [s.sz]; omega,s.fbox.ext x,?_,fun i hi=>⟨0,?_⟩,?_,?_⟩
 ·exact (s.row.ext x).same fun j hj=>by rw [if_pos hj]
 ·rw [rowV_nil]
  exact (s.maps i hi).ext x
 ·have:=RowAt.made w 4 (.bool false) f.code.length
  rw [s.sz] at this
  exact this.ext ((Ext.refl _).alloc _)
 ·refine Que.new (by rw [s.sz]; omega) (e := 161) ?_
  have:=Blk.new (w.alloc (.cells (madeCells #[.bool false] f.code.length) 4)) 161 #[.int .i64 0,.int .i64 0]
  rwa [size_alloc] at this
end
theorem Que.pop2 {w:World} {base:Nat} {v:Value} {p:Int × Int} {l:List (Int × Int)} (h:Que w base v (p :: l)):∃ g off cap a2 c2,v=.slice (some ⟨g,off,none⟩) (l.length + 1) cap∧g < w.heap.size∧v.ownBlock=some g ∧
  w.cell? ⟨g,off,none⟩=some (.int .i64 p.1)∧w.cell? ⟨g,off + 1,none⟩=some (.int .i64 p.2)∧(∀ w',(Instr.slice 162 v (some (.int .i64 1)) none none).run Tryz.prog w'=.ok (.slice a2 l.length c2) w') ∧
  Que w base (.slice a2 l.length c2) l∧(Value.slice a2 l.length c2).ownBlock=some g:=by
 obtain ⟨g,off,cap,rfl,hb,hg,ho,h1,h2,c0,c1,hq⟩:=h.head
 refine ⟨g,off,cap,_,_,rfl,hg,ho,c0,c1,fun w'=>?_,hq,?_⟩
 ·have hz:(Tryz.prog.info? 161).map (·.size)=some 2:=by kernel_rfl
  obtain ⟨i,hi,hs⟩:=Option.map_eq_some_iff.1 hz
  have e1:(cap=1)=(cap - 1=0):=by rw [eq_iff_iff]; omega
  have hn:(1:Int) ≤ (l.length:Int) + 1:=by omega
  by_cases hc:cap=1
  ·subst hc
   simp [Instr.slice,run_underlying Tryz.underlying162,Instr.sliceBounds,Instr.sliceBound,sizeOf,typeInfo,hi,hs,Result.andThen,asIntOf,hn]
  ·have hc':¬ cap - 1=0:=by omega
   simp [Instr.slice,run_underlying Tryz.underlying162,Instr.sliceBounds,Instr.sliceBound,sizeOf,typeInfo,hi,hs,Result.andThen,asIntOf,hn,hc,hc',Addr.add_lit]
 ·by_cases hc:cap - 1=0
  ·rw [if_pos hc]; rfl
  ·rw [if_neg hc]; rfl
theorem news_take (c:List Cd) (L:List (Int × Int)) (j:Nat) (hj:j < L.length) {q:Int × Int} (hq:q=L.getD j (0,0)) :
  newsS c (L.take (j + 1))=newsS c (L.take j) ++ (if q.1 < c.length then [q] else [])∧outB c (L.take (j + 1))=(outB c (L.take j) || !decide (q.1 < (c.length:Int))):=by
 have hq':L[j]=q:=by rw [hq,List.getD,List.getElem?_eq_getElem hj]; rfl
 unfold newsS outB
 rw [List.take_succ_eq_append_getElem hj,hq',List.filter_append,List.any_append]
 unfold fitB
 refine ⟨?_,by simp⟩
 by_cases h:q.1 < (c.length:Int) <;> simp [h]
theorem setO_or (O:Int → Bool) (a:Int) (b:Bool):setO O a (b || true)=setO (setO O a b) a true:=by
 funext i
 unfold setO
 split <;> simp
theorem info_pair:(Tryz.prog.info? 161).map (fun i=>(i.zero,i.size,i.bytes))=some (some (.agg #[.int .i64 0,.int .i64 0]),2,16):=by kernel_rfl
theorem info_mapib:(Tryz.prog.info? 61).map (fun i=>(i.zero,i.size,i.bytes))=some (some (.map none),1,8):=by kernel_rfl
theorem info_bool:(Tryz.prog.info? 4).map (fun i=>(i.zero,i.size,i.bytes))=some (some (.bool false),1,1):=by kernel_rfl
theorem pairs_raw (f:Fc) (w:World) (hC:CdAt w f.A f.code) (sn:Sane f.code) :
  Calls Tryz.prog 61 #[.agg #[.string f.name,.int .i64 f.params,.int .i64 f.places,.int .i64 f.ty.base,.int .i64 f.ty.bits,.string f.ty.name,.bool f.ty.opt,.bool f.ty.err,.slice f.A f.code.length f.cap]] w fun e w' =>
   ∃ v S O,e=.returned (.tuple #[.slice (some ⟨w.heap.size + 1,0,none⟩) f.code.length f.code.length,.slice (some ⟨w.heap.size + 2 + f.code.length,0,none⟩) f.code.length f.code.length])∧RfSt w w' f v S [] O∧RfInv f.code S [] O:=by
 have hfew:=sn.few
 have hpos:=sn.pos
 have hmm:=@run_makeMap Tryz.prog
 have hmk:=fun W=>run_make_row' (P:=Tryz.prog) 117 61 (.map none) 8 Tryz.underlying117 info_mapib rfl .i64 .i64 f.code.length (by omega) (by omega) W
 have hmk2:=fun W=>run_make_row' (P:=Tryz.prog) 67 4 (.bool false) 1 Tryz.underlying67 info_bool rfl .i64 .i64 f.code.length (by omega) (by omega) W
 have HC:=Lib.hid hC
 have SN:=Lib.hid sn
 obtain ⟨i0,hi0,hz0,hz1,hz2⟩:=info_parts info_pair
 have HI:=Lib.hid hi0; have HZ0:=Lib.hid hz0; have HZ1:=Lib.hid hz1; have HZ2:=Lib.hid hz2
 clear hC sn hi0 hz0 hz1 hz2
 obtain ⟨len,hlen⟩:∃ len,len=f.code.length:=⟨_,rfl⟩
 rw [← hlen] at hfew hpos hmk hmk2 ⊢
 have HLn:=Lib.hid hlen
 clear hlen
 go_enter Tryz.func61,Tryz.ntmps61
 go_wp2_with fail
 go_loopw [5] (fun i wr=>∃ k:Nat,k ≤ len∧i=.int .i64 k∧MkSt w wr f k) (fun i _=>len - (intOf i).toNat)
 case atStart =>
  refine ⟨0,Nat.zero_le _,rfl,?_⟩
  obtain rfl:=HLn.out
  exact MkSt.begin f w
 case round =>
  obtain ⟨k,hk,rfl,st⟩:=hrel
  have c1:=fun j (hj:j < f.code.length)=>st.row.cell hj
  have f1:=st.row.frozen k
  have z1:=st.row.lt
  have z0:=st.fbox.out.lt
  have fb:=st.fbox.cells.2.2.2.2.2.2.2.2
  rw [← HLn.out] at fb
  have ST:=Lib.hid st
  have SZ:=Lib.hid st.sz
  clear st
  by_cases hlt:k < len
  ·have c2:=c1 k (by rw [← HLn.out]; exact hlt)
   rw [if_neg (Nat.lt_irrefl k)] at c2
   clear c1
   go_wp2_with fail
   case roundEnd=>exact ⟨⟨k + 1,by omega,by go_num,ST.out.next⟩,by simp [intOf]; omega⟩
  ·clear c1
   obtain rfl:k=len:=by omega
   clear hmm hmk f1 hk hlt
   go_wp2_with fail
   have RS:Hid (RfSt w ((wr.alloc (.cells (madeCells #[.bool false] k) 4)).alloc (.cells #[.int .i64 0,.int .i64 0] 161)) f (.slice (some ⟨wr.heap.size + 1,0,none⟩) 1 1) [] [(0,0)] (fun _=>false)):=by
    obtain rfl:=HLn.out
    exact RfSt.begin ST.out
   rw [SZ.out] at RS ⊢
   clear ST SZ z0 z1 fb hmk2
   go_loopg [7] (rfMs f.code [] [(0,0)]) (fun n v wr=>∃ S T O,RfSt w wr f v S T O∧RfInv f.code S T O∧rfMs f.code S T ≤ n)
   case atStart=>exact ⟨_,_,_,RS.out,RfInv.start,Nat.le_refl _⟩
   case round =>
    clear RS
    obtain ⟨S,T,O,st,iv,hkk⟩:=hrel
    cases T with
    | nil =>
     obtain ⟨g,off,cap,hv,_,_,_⟩:=st.que.slice
     subst hv
     have ST:=Lib.hid st
     have IV:=Lib.hid iv
     clear st iv hkk
     simp only [List.length_nil]
     go_wp2_with fail
     go_ret2
     exact ⟨_,S,O,rfl,ST.out,IV.out⟩
    | cons p T =>
     have hp:=iv.allT p (List.mem_cons_self ..)
     obtain ⟨i1,i2,i3,i4⟩:=hp.inb SN.out
     obtain ⟨l1,l2⟩:=iv.lens SN.out
     simp only [List.length_cons] at l2
     have HTL:Hid (T.length ≤ 300000):=by have:=SN.out.few; unfold Hid; omega
     obtain ⟨x,hx⟩:∃ x,x=xAt f.code p:=⟨_,rfl⟩
     have hxm:x ∈ f.code:=by rw [hx]; exact xAt_mem ⟨i1,i2,i3,i4⟩
     obtain ⟨t1,t2,t3⟩:=SN.out.each x hxm
     obtain ⟨g,off,cap,a2,c2,hv,hg,hob,q0,q1,hsl,hq,hob2⟩:=st.que.pop2
     obtain ⟨pa,ph⟩:=p
     simp only [] at i1 i2 i3 i4 q0 q1
     obtain ⟨n,hn⟩:∃ n:Nat,pa=n:=⟨pa.toNat,by omega⟩
     subst hn
     have hnk:n < k:=by have:=HLn.out; omega
     have hnf:n < f.code.length:=by omega
     have sc:=st.seenc.cell hnf
     subst hv
     have ST:=Lib.hid st
     have IV:=Lib.hid iv
     have HX:=Lib.hid hx
     have HQ:=Lib.hid hq
     clear st iv hq hp hx hxm
     generalize hnT2:T.length=nT at *
     go_wp2_with fail
     go_quiet (fail)
     have ST:Hid (RfSt w (wr.drewN nq) f (.slice (some ⟨g,off,none⟩) (nT + 1) cap) S (((n:Int),ph) :: T) O):=ST.out.ext' ((Ext.refl _).drewN _)
     have HQ:Hid (Que (wr.drewN nq) (w.heap.size + 3 + f.code.length) (.slice a2 nT c2) T):=HQ.out.ext ((Ext.refl _).drewN _)
     have zg:g < (wr.drewN nq).heap.size:=hg
     clear hg q0 q1 sc
     generalize wr.drewN nq=w9 at ST HQ zg ⊢
     have sc:=ST.out.seenc.cell hnf
     have z1:=ST.out.seenc.lt
     obtain ⟨y0,y1,y2,y3,y4,y5,y6,y7,y8⟩:=ST.out.fbox.cells
     have z0:=ST.out.fbox.out.lt
     rw [← HLn.out] at y8
     obtain ⟨lk,hkey⟩:=keyOf_i (i:=ph) (by omega) (by omega)
     have HK:=Lib.hid hkey
     clear hkey
     by_cases hm:((n:Int),ph) ∈ S
     ·have hlk:(Instr.lookup 61 (.map (some (w.heap.size + 2 + n))) (.int .i64 ph) false).run Tryz.prog w9=.ok (.bool true) w9:=by
       obtain ⟨m,hmm⟩:=ST.out.maps n hnf
       rw [hmm.look key_int Tryz.underlying61 zero_bool HK.out false,rowV_in hm]
       rfl
      have HM:=Lib.hid hm
      clear hm
      go_wp2_with fail
      obtain ⟨e1,e2⟩:=IV.out.skip HM.out
      go_roundg (gk - 1)
      case measure=>omega
      case rel=>exact ⟨_,_,_,ST.out.pop HQ.out,e1,by omega⟩
     ·have hlk:(Instr.lookup 61 (.map (some (w.heap.size + 2 + n))) (.int .i64 ph) false).run Tryz.prog w9=.ok (.bool false) w9:=by
       obtain ⟨m,hmm⟩:=ST.out.maps n hnf
       rw [hmm.look key_int Tryz.underlying61 zero_bool HK.out false,rowV_out hm]
       rfl
      have HM:=Lib.hid hm
      clear hm
      go_wp2_with (first
       | (at_mapUpdate
          obtain ⟨m,hmm⟩:=ST.out.maps n hnf
          refine wpList_store_map rfl _ _ _ 61 (.inl rfl) (V':=rowV (((n:Int),ph) :: S) (n:Int)) key_int Tryz.underlying61 hmm rfl (key:=.int .i64 ph) rfl rfl HK.out (rowV_in (List.mem_cons_self ..)) (fun x hx=>rowV_self hx) ?_
          intro w1 m1 g1 s1
          have ST:=Lib.hid ((ST.out.pop HQ.out).mapped hnf rfl g1 m1)
          clear y0 y1 y2 y3 y4 y5 y6 y7 y8 sc hlk z0 z1 zg m1 g1 s1 hmm
          obtain ⟨y0,y1,y2,y3,y4,y5,y6,y7,y8⟩:=ST.out.fbox.cells
          have z0:=ST.out.fbox.out.lt
          rw [← HLn.out] at y8)
       | (go_at_call 62
          refine (isHeight_len f HLn.out (k:=n) (h:=ph) (x:=x) _ (HC.out.ext ST.out.ext) hnk (by omega) HX.out).mono ?_
          rintro r w2 ⟨rfl,x2⟩
          have ST:=Lib.hid (ST.out.ext' x2)
          clear y0 y1 y2 y3 y4 y5 y6 y7 y8 z0 x2
          obtain ⟨y0,y1,y2,y3,y4,y5,y6,y7,y8⟩:=ST.out.fbox.cells
          have z0:=ST.out.fbox.out.lt
          rw [← HLn.out] at y8)
       | (go_at_call 107
          refine (ways_at f HLn.out (k:=n) (h:=ph) (x:=x) _ (HC.out.ext ST.out.ext) hnk hfew HX.out (show okH x ph=true from by simpa using (show (!okH x ph)=false by assumption)) t1).mono ?_
          rintro r w3 ⟨vL,rfl,x3,pr⟩
          have ST2:=Lib.hid ST.out.sz
          have QB:Hid (∀ k,(Value.slice a2 nT c2).ownBlock=some k → k < w2.heap.size):=fun k e=>(ST.out.que.block e).2
          have ST:=Lib.hid (ST.out.ext' x3)
          have PR:=Lib.hid pr
          clear y0 y1 y2 y3 y4 y5 y6 y7 y8 z0 x3 pr))
      ·have h7:(!okH x ph)=true:=by assumption
       have ok:okH (xAt f.code ((n:Int),ph)) ph=false:=by rw [← HX.out]; simpa using h7
       obtain ⟨e1,e2⟩:=IV.out.wrong SN.out HM.out ok
       go_roundg (gk - 1)
       case measure=>omega
       case rel=>exact ⟨_,_,_,ST.out,e1,by omega⟩
      ·have h7:(!okH x ph)=false:=by assumption
       have ok:okH (xAt f.code ((n:Int),ph)) ph=true:=by rw [← HX.out]; simpa using h7
       obtain ⟨e1,e2⟩:=IV.out.on SN.out HM.out ok
       obtain ⟨L,hL⟩:∃ L,L=waysS f.code ((n:Int),ph):=⟨_,rfl⟩
       rw [← hL] at e1 e2 PR
       have HL:=Lib.hid hL
       have E1:=Lib.hid e1
       have E2:=Lib.hid e2
       clear e1 e2 hL ok h7
       rcases PR.out with ⟨hL0,hv⟩ | ⟨gl,hv,hgl,hB⟩
       ·subst hv
        subst hL0
        clear PR HL HQ
        have E1:Hid (RfInv f.code (((n:Int),ph) :: S) T O):=by
         have:=E1.out
         rw [show outB f.code []=false from rfl,setO_false,show newsS f.code []=[] from rfl,List.append_nil] at this
         exact this
        have E2:Hid (rfMs f.code (((n:Int),ph) :: S) T < rfMs f.code S (((n:Int),ph) :: T)):=by
         have:=E2.out
         rw [show newsS f.code []=[] from rfl,List.append_nil] at this
         exact this
        go_wp2_with fail
        go_loopw [7,11] (fun v i wr=>i=.int .i64 0∧v=.slice a2 nT c2∧RfSt w wr f (.slice a2 nT c2) (((n:Int),ph) :: S) T O) (fun _ _ _=>0)
        case atStart=>exact ⟨rfl,rfl,ST.out⟩
        case round =>
         obtain ⟨rfl,rfl,st⟩:=hrel
         have ST3:=Lib.hid st
         clear ST ST2 st
         go_wp2_with fail
         have e2:=E2.out
         go_roundg (gk - 1)
         case measure=>omega
         case rel=>exact ⟨_,_,_,ST3.out,E1.out,by omega⟩
       ·subst hv
        have HB:=Lib.hid hB
        have hgl2:w.heap.size + 4 + k ≤ gl:=by have:=ST2.out; have:=HLn.out; omega
        have HGL:Hid (w2.heap.size ≤ gl):=hgl
        have hL2:L.length ≤ 2:=by rw [HL.out]; exact ways_len _ _
        have hN2:∀ j,(newsS f.code (L.take j)).length ≤ 2:=fun j=>Nat.le_trans (List.length_filter_le _ _) (Nat.le_trans (List.length_take_le' _ _) hL2)
        have HN2:=Lib.hid hN2
        clear hB PR HL HQ hgl hN2
        obtain ⟨nL,hnL⟩:∃ nL,nL=L.length:=⟨_,rfl⟩
        rw [← hnL] at hL2 ⊢
        have HNL:=Lib.hid hnL
        clear hnL
        go_wp2_with fail
        go_loopw [7,11] (fun v i wr=>∃ j:Nat,j ≤ nL∧i=.int .i64 j∧RfSt w wr f v (((n:Int),ph) :: S) (T ++ newsS f.code (L.take j)) (setO O n (outB f.code (L.take j)))∧Blk wr gl 161 (qcells L).toArray∧v.ownBlock ≠ some gl) (fun _ i _=>nL - (intOf i).toNat)
        case atStart =>
         refine ⟨0,Nat.zero_le _,rfl,?_,HB.out,fun e=>by have:=QB.out _ e; have:=HGL.out; omega⟩
         rw [List.take_zero,show outB f.code []=false from rfl,setO_false,show newsS f.code []=[] from rfl,List.append_nil]
         exact ST.out
        case round =>
         obtain ⟨j,hj,rfl,st,hb,hne⟩:=hrel
         have ST3:=Lib.hid st
         have HB3:=Lib.hid hb
         have HNE:=Lib.hid hne
         have z0:=st.fbox.out.lt
         have y8:=st.fbox.cells.2.2.2.2.2.2.2.2
         have zl:=hb.lt
         rw [← HLn.out] at y8
         clear ST ST2 QB HB HGL st hb hne
         by_cases hlt:j < nL
         ·obtain ⟨q,hq⟩:∃ q,q=L.getD j (0,0):=⟨_,rfl⟩
          obtain ⟨u0,u1⟩:=qcells_get L j (by rw [← HNL.out]; exact hlt)
          rw [← hq] at u0 u1
          have d0:=HB3.out.cell (j * 2)
          have d1:=HB3.out.cell (j * 2 + 1)
          rw [List.getElem?_toArray,u0] at d0
          rw [List.getElem?_toArray,u1] at d1
          have HT:=Lib.hid (news_take f.code L j (by rw [← HNL.out]; exact hlt) hq)
          obtain ⟨qa,qh⟩:=q
          have HQ2:=Lib.hid hq
          clear u0 u1 hq
          simp only [] at d0 d1
          go_wp2_with fail
          go_quiet (fail)
          have ST4:Hid (RfSt w (wr.drewN nq) f _ _ _ _):=ST3.out.ext' ((Ext.refl _).drewN _)
          have HB4:Hid (Blk (wr.drewN nq) gl _ _):=HB3.out.drewN _
          clear ST3 HB3 d0 d1 z0 y8 zl
          generalize wr.drewN nq=w5 at ST4 HB4 ⊢
          have zl:=HB4.out.lt
          have d0:=HB4.out.cell (j * 2)
          have d1:=HB4.out.cell (j * 2 + 1)
          obtain ⟨u0,u1⟩:=qcells_get L j (by rw [← HNL.out]; exact hlt)
          rw [← HQ2.out] at u0 u1
          rw [List.getElem?_toArray,u0] at d0
          rw [List.getElem?_toArray,u1] at d1
          clear u0 u1
          simp only [] at d0 d1
          have m0:=ST4.out.outc.cell hnf
          have m1:=ST4.out.outc.frozen n
          have m2:=ST4.out.outc.lt
          rw [← HLn.out] at m0 m1 m2
          go_wp2_with (first
           | (at_builtin
              refine wpList_push rfl _ _ 162 rfl 161 i0 _ Tryz.underlying162 HI.out HZ0.out HZ1.out HZ2.out rfl (ST4.out.alloc _).que rfl (by rw [List.length_append]; have:=HN2.out j; have:=HTL.out; omega) ⟨w5.heap.size,0,none⟩ 1 qa qh rfl (World.news_of_block (cs:=#[.int .i64 qa,.int .i64 qh]) (heap_alloc_new w5 _)) (by have:=(ST4.out.alloc (.cells #[.int .i64 qa,.int .i64 qh] 161)).sz; omega) ?_
              intro v6 w6 q6 g6 o6
              have Q6:=Lib.hid q6
              have G6:=Lib.hid g6
              have O6:=Lib.hid o6
              clear q6 g6 o6 d0 d1 m0 m1 m2 zl))
          case roundEnd =>
           have h8:(k:Int) ≤ qa:=by assumption
           refine ⟨⟨j + 1,by omega,by go_num,?_,HB4.out.far (by first | (simp; done) | (simp; omega)) _,HNE.out⟩,by simp [intOf]; omega⟩
           have h9:=HT.out
           rw [if_neg (by have:=HLn.out; omega),decide_eq_false (by have:=HLn.out; omega),List.append_nil] at h9
           rw [h9.1,h9.2,Bool.not_false,setO_or,show w.heap.size + 2 + k=w.heap.size + 2 + f.code.length by rw [← HLn.out]]
           exact ST4.out.marked hnf rfl
          case roundEnd =>
           have h8:qa < (k:Int):=by assumption
           refine ⟨⟨j + 1,by omega,by go_num,?_,(HB4.out.alloc _).grown G6.out (fun e=>HNE.out e.symm),?_⟩,by simp [intOf]; omega⟩
           ·have h9:=HT.out
            rw [if_pos (by have:=HLn.out; omega),decide_eq_true (by have:=HLn.out; omega)] at h9
            rw [h9.1,h9.2,Bool.not_true,Bool.or_false,← List.append_assoc]
            have:=(ST4.out.alloc _).pushed G6.out Q6.out
            exact this
           ·rcases O6.out with e | ⟨g',e,hg'⟩
            ·rw [e]; exact HNE.out
            ·rw [e]; intro e2; have:=Option.some.inj e2; have:=HB4.out.lt; simp at hg'; omega
         ·obtain rfl:j=nL:=by omega
          go_wp2_with fail
          have e1:=E1.out
          have e2:=E2.out
          have st:=ST3.out
          rw [List.take_of_length_le (by have:=HNL.out; omega)] at st
          go_roundg (gk - 1)
          case measure=>omega
          case rel=>exact ⟨_,_,_,st,e1,by omega⟩
structure Pairs (w w':World) (c:List Cd) (gs gm go:Nat) (S:List (Int × Int)) (O:Int → Bool):Prop where
 ext:Ext w w'
 new:w.heap.size ≤ gs∧w.heap.size ≤ gm∧w.heap.size ≤ go
 seenc:RowAt w' gs 61 c.length (fun j=>.map (some (gm + j)))
 maps:∀ i,i < c.length → ∃ m,MapAt w' 3 (gm + i) m (rowV S i)
 outc:RowAt w' go 4 c.length (fun j=>.bool (O j))
 all:∀ q,q ∈ S ↔ Reach c q
 bad:∀ i,BadIn c (Reach c) i ↔ ((∃ h,(i,h) ∈ S∧okH (xAt c (i,h)) h=false) ∨ (∃ h k,h ≠ k∧(i,h) ∈ S∧(i,k) ∈ S) ∨ O i=true)
theorem Pairs.ext' {w w' w2:World} {c:List Cd} {gs gm go:Nat} {S:List (Int × Int)} {O:Int → Bool} (p:Pairs w w' c gs gm go S O) (x:Ext w' w2):Pairs w w2 c gs gm go S O :=
 ⟨p.ext.trans x,p.new,p.seenc.ext x,fun i hi=>let ⟨m,hm⟩:=p.maps i hi; ⟨m,hm.ext x⟩,p.outc.ext x,p.all,p.bad⟩
theorem pairs_any (f:Fc) (w:World) (hC:CdAt w f.A f.code) (sn:Sane f.code) :
  Calls Tryz.prog 61 #[.agg #[.string f.name,.int .i64 f.params,.int .i64 f.places,.int .i64 f.ty.base,.int .i64 f.ty.bits,.string f.ty.name,.bool f.ty.opt,.bool f.ty.err,.slice f.A f.code.length f.cap]] w fun e w' =>
   ∃ gs gm go S O,e=.returned (.tuple #[.slice (some ⟨gs,0,none⟩) f.code.length f.code.length,.slice (some ⟨go,0,none⟩) f.code.length f.code.length])∧Pairs w w' f.code gs gm go S O:=by
 refine (pairs_raw f w hC sn).mono ?_
 rintro e w' ⟨v,S,O,rfl,st,iv⟩
 exact ⟨_,w.heap.size + 2,_,S,O,rfl,st.ext,⟨by omega,by omega,by omega⟩,st.seenc,st.maps,st.outc,iv.end_.1,iv.end_.2⟩
theorem pairs_len (f:Fc) {len:Nat} (hl:len=f.code.length) (w:World) (hC:CdAt w f.A f.code) (sn:Sane f.code) :
  Calls Tryz.prog 61 #[.agg #[.string f.name,.int .i64 f.params,.int .i64 f.places,.int .i64 f.ty.base,.int .i64 f.ty.bits,.string f.ty.name,.bool f.ty.opt,.bool f.ty.err,.slice f.A len f.cap]] w fun e w' =>
   ∃ gs gm go S O,e=.returned (.tuple #[.slice (some ⟨gs,0,none⟩) len len,.slice (some ⟨go,0,none⟩) len len])∧Pairs w w' f.code gs gm go S O:=by
 subst hl
 exact pairs_any f w hC sn
end Go.Proofs.YtcoookehfhhhdaaGreatDoor.c
