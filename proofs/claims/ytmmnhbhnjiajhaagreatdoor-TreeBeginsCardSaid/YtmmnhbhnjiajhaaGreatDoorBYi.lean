/- lex.isToken and lex.Join at tokens that are ones by themselves: contracts. Condition: each text is one token's. -/
import Derived.Test.YtmmnhbhnjiajhaaGreatDoorBYc
import Derived.Test.YtmmnhbhnjiajhaaGreatDoorBVd
import Derived.Test.YtmmnhbhnjiajhaaGreatDoorShelfJ
namespace Go.Proofs.YtmmnhbhnjiajhaaGreatDoor.c
open Go.RowKit
set_option linter.unusedVariables false
set_option maxRecDepth 100000
set_option maxHeartbeats 3200000
set_option linter.unusedSimpArgs false
attribute [local go_sem] Oper.semAt_some
theorem yl_one {x:Tok} (h:TK x):yl x.text 0=[⟨x.kind,0,x.text⟩]:=yl_join x.text [x] 0 (fun y hy=>by rw [List.mem_singleton.1 hy]; exact h) (by rw [List.drop_zero]; rfl)
def OnlyT (x:Tok) (pre:List Tok):Prop:=pre=[] ∨ ∃ y,pre=[y]∧y.kind=x.kind∧y.text=x.text
structure IsI (w:World) (b:Nat) (x:Tok) (pre:List Tok) (W:World):Prop where
 ext:Ext w W
 b1:Blk W b 84 (tokA x)
 b2:Blk W (b + 1) 4 #[.bool false]
 b3:Blk W (b + 1 + 1) 3 #[.int .i64 pre.length]
 bn:Blk W (b + 1 + 1 + 1) 9 #[.string x.text]
 ok:OnlyT x pre
theorem IsI.own {w:World} {b B:Nat} {x:Tok} (hB:w.heap.size ≤ B):OwnFrom B (IsI w b x):=fun pre W W' row h g hr =>
 ⟨keepX h.ext hB g hr,keepC g hr h.b1,keepC g hr h.b2,keepC g hr h.b3,keepC g hr h.bn,h.ok⟩
theorem is_res {tmps:Array Value} {W:World} {b2:Nat} {v:Value} (h2:tmps.getD 2 undef=.pointer (some ⟨b2,0,none⟩)) (k2:Boxed W b2 4 v):(results Tryz.f41 tmps).run Tryz.prog W=.ok v W:=by
 simp only [Array.getD_eq_getD_getElem?] at h2
 have c2:=k2.cell
 simp only [results,Tryz.results41]
 simp [go_sem,h2,c2]
theorem is_end {w W:World} {b2 D:Nat} {x2:Value} (u2:Value) (hx:Ext w W) (k2:Blk W b2 4 #[x2]) (l2:w.heap.size ≤ b2) (hD:W.heap[D]?=some (.deferred (some []))) (lD:w.heap.size ≤ D) (o':Obj) :
  (W.setCell ⟨b2,0,none⟩ u2).heap[D]?=some (.deferred (some []))∧Boxed ((W.setCell ⟨b2,0,none⟩ u2).putObj D o') b2 4 u2∧Ext w ((W.setCell ⟨b2,0,none⟩ u2).putObj D o'):=by
 have d2:D ≠ b2:=fun e=>by subst e; rw [show W.heap[D]?=_ from k2] at hD; cases hD
 have hD2:(W.setCell ⟨b2,0,none⟩ u2).heap[D]?=some (.deferred (some [])):=(Below.heap_setCell _ _ _ _ d2).trans hD
 have x1:=hx.setCell (p:=⟨b2,0,none⟩) l2 u2
 exact ⟨hD2,Boxed.kept (k2.set_ 0 u2) (grownBy_putObj' _ D o') (fun e=>d2 (Option.some.inj e).symm),⟨x1.out.grown (grownBy_putObj' _ D o') x1.size fun r e=>by cases e; exact lD⟩⟩
theorem isTok_any (x:Tok) (hx:TK x) (hs:x.text.size ≤ 4000) (w:World):Calls Tryz.prog 41 #[.agg (tokA x)] w fun e w'=>e=.returned (.bool true)∧Ext w w':=by
 refine (callsIn_wide (n:=10)).1 ?_
 refine callsIn_of_wp_marks Tryz.func41 rfl trivial ?_ rfl
 simp only [Tryz.ntmps41,List.size_toArray,List.length_cons,List.length_nil,Nat.reduceAdd,Nat.reduceSub,Array.replicate_succ,Array.replicate_zero,List.push_toArray,List.append_toArray,List.nil_append,List.cons_append]
 refine wpIn_wide.2 ?_
 have HYL:=Lib.hid (yl_one hx)
 unfold tokA
 go_wp2_with (first
  | (go_at_call 40; refine (tokens_fn _ _).mono ?_; rintro e w1 ⟨rfl,hw1⟩))
 generalize hb2:w.heap.size=b
 obtain ⟨W0,hW0⟩:∃ W0,((((w.alloc (.cells #[.int .i64 x.kind,.int .i64 x.at_,.string x.text] 84)).alloc (.cells #[.bool false] 4)).alloc (.cells #[.int .i64 0] 3)).alloc (.cells #[.string x.text] 9))=W0:=⟨_,rfl⟩
 have hsz:W0.heap.size=b + 4:=by rw [← hW0,← hb2]; simp
 have hI:IsI w b x [] W0:=by
  have q1:=Blk.new w 84 #[.int .i64 x.kind,.int .i64 x.at_,.string x.text]
  have q2:=Blk.new (w.alloc (.cells #[.int .i64 x.kind,.int .i64 x.at_,.string x.text] 84)) 4 #[.bool false]
  have q3:=Blk.new ((w.alloc (.cells #[.int .i64 x.kind,.int .i64 x.at_,.string x.text] 84)).alloc (.cells #[.bool false] 4)) 3 #[.int .i64 0]
  have q4:=Blk.new (((w.alloc (.cells #[.int .i64 x.kind,.int .i64 x.at_,.string x.text] 84)).alloc (.cells #[.bool false] 4)).alloc (.cells #[.int .i64 0] 3)) 9 #[.string x.text]
  simp only [size_alloc,hb2] at q1 q2 q3 q4
  rw [← hW0]
  exact ⟨exA,((q1.alloc _).alloc _).alloc _,(q2.alloc _).alloc _,q3.alloc _,q4,.inl rfl⟩
 have hbn:Blk W0 (b + 1 + 1 + 1) 9 #[.string x.text]:=hI.bn
 have hww:w.heap.size ≤ W0.heap.size:=by omega
 have hwb:w.heap.size ≤ b:=Nat.le_of_eq hb2
 have hwz:b + 4 ≤ W0.heap.size:=Nat.le_of_eq hsz.symm
 rw [hW0]
 clear hb2 hsz hW0
 refine (wpIn_wide (n:=10)).1 ?_
 refine wpIn_rangeFunc_ownH rfl (by decide) (gf := 76) (lb:=#[.pointer (some ⟨b + 1 + 1 + 1,0,none⟩)]) rfl trivial (enters_of Tryz.func76 (by kernel_rfl) rfl)
  (tok_it 9 (by decide) (b + 1 + 1 + 1) x.text hs W0 hbn) (fun h k=>h.trans k) (fun W l o o' _ hl hc _=>KpT.putObj o' hl hc) (Below.refl _ _) (fun _=>rfl)
  (IsI w b x) (fun c pre W=>c=.ret∧¬ OnlyT x pre) (IsI.own hww) (fun c pre W W' row h g hr=>h) hI
  (fun y a' W=>∃ bx,w.heap.size ≤ bx∧Blk W bx 84 (tokA y)∧a'={ tmps:=#[.agg (tokA x),.pointer (some ⟨b,0,none⟩),.pointer (some ⟨b + 1,0,none⟩),.pointer (some ⟨b + 1 + 1,0,none⟩),.pointer (some ⟨bx,0,none⟩),.pointer (some ⟨b,2,none⟩),.string x.text,.func (.func 76) #[] #[.pointer (some ⟨b + 1 + 1 + 1,0,none⟩)],.agg (tokA y),undef,undef,undef,undef,undef,undef,undef,undef,undef,undef,undef,undef,undef,undef,undef,undef,undef,undef,undef,undef],defers:=[] })
  (fun y a' _ W W' row h g hr=>by obtain ⟨bx,hl,hb,ha⟩:=h; exact ⟨bx,hl,keepC g hr hb,ha⟩) ?assign ?body ?done ?stop
 case assign =>
  intro l pre y W K hi hK
  dsimp only [encT]
  gi_wp2
  have hx:Ext W (W.alloc (.cells (tokA y) 84)):=(Ext.refl W).alloc _
  refine hK _ _ ((KeepsOthers.alloc _ _).from _) (KpT.ext hx) ⟨hi.ext.alloc _,hi.b1.alloc _,hi.b2.alloc _,hi.b3.alloc _,hi.bn.alloc _,hi.ok⟩ ⟨W.heap.size,hi.ext.size,Blk.new W _ _,rfl⟩
 case body =>
  rintro l pre y a' W hl ⟨rc,hrc⟩ hi ⟨bx,hbx,hB,rfl⟩ hlt
  have hml:pre.length + 1 ≤ 4000:=by omega
  have hwm:wrap64 ((pre.length:Int) + 1)=(pre.length:Int) + 1:=IntWalk.wrap64_in _ (by omega)
  have q0:W.cell? ⟨bx,0,none⟩=some (.int .i64 y.kind):=hB.cell 0
  have q2:W.cell? ⟨bx,2,none⟩=some (.string y.text):=hB.cell 2
  have p0:W.cell? ⟨b,0,none⟩=some (.int .i64 x.kind):=hi.b1.cell 0
  have p2:W.cell? ⟨b,2,none⟩=some (.string x.text):=hi.b1.cell 2
  have c3:W.cell? ⟨b + 1 + 1,0,none⟩=some (.int .i64 pre.length):=hi.b3.cell 0
  have z3:=hi.b3.frozen
  have n3:bx ≠ b + 1 + 1:=fun e=>by subst e; have h9:=(show W.heap[b + 1 + 1]?=_ from hB).symm.trans hi.b3; simp at h9
  have n1:b ≠ b + 1 + 1:=by omega
  have r3:(W.setCell ⟨b + 1 + 1,0,none⟩ (.int .i64 ((pre.length:Int) + 1))).cell? ⟨b + 1 + 1,0,none⟩=some (.int .i64 ((pre.length:Int) + 1)):=(hi.b3.set_ 0 (.int .i64 ((pre.length:Int) + 1))).cell 0
  have r0:(W.setCell ⟨b + 1 + 1,0,none⟩ (.int .i64 ((pre.length:Int) + 1))).cell? ⟨bx,0,none⟩=some (.int .i64 y.kind):=(hB.far (p:=⟨b + 1 + 1,0,none⟩) n3 _).cell 0
  have r2:(W.setCell ⟨b + 1 + 1,0,none⟩ (.int .i64 ((pre.length:Int) + 1))).cell? ⟨bx,2,none⟩=some (.string y.text):=(hB.far (p:=⟨b + 1 + 1,0,none⟩) n3 _).cell 2
  have s0:(W.setCell ⟨b + 1 + 1,0,none⟩ (.int .i64 ((pre.length:Int) + 1))).cell? ⟨b,0,none⟩=some (.int .i64 x.kind):=(hi.b1.far (p:=⟨b + 1 + 1,0,none⟩) n1 _).cell 0
  have s2:(W.setCell ⟨b + 1 + 1,0,none⟩ (.int .i64 ((pre.length:Int) + 1))).cell? ⟨b,2,none⟩=some (.string x.text):=(hi.b1.far (p:=⟨b + 1 + 1,0,none⟩) n1 _).cell 2
  have d2:(W.setCell ⟨b + 1 + 1,0,none⟩ (.int .i64 ((pre.length:Int) + 1))).cell? ⟨b + 1,0,none⟩=some (.bool false):=(hi.b2.far (p:=⟨b + 1 + 1,0,none⟩) (by show b + 1 ≠ b + 1 + 1; omega) _).cell 0
  have d2':W.cell? ⟨b + 1,0,none⟩=some (.bool false):=hi.b2.cell 0
  have z2:=hi.b2.frozen
  have BAD:Hid (¬ OnlyT x (pre ++ [y]) → KeepsOthers W ((W.setCell ⟨b + 1 + 1,0,none⟩ (.int .i64 ((pre.length:Int) + 1))).setCell ⟨b + 1,0,none⟩ (.bool false))∧¬ OnlyT x (pre ++ [y])):=fun h=>⟨(KeepsOthers.setCell _ _ _).trans (KeepsOthers.setCell _ _ _),h⟩
  by_cases hgood:OnlyT x (pre ++ [y])
  ·obtain ⟨rfl,hk,ht⟩:pre=[]∧y.kind=x.kind∧y.text=x.text:=by
    rcases hgood with h9 | ⟨z,h9,h8,h7⟩
    ·simp at h9
    ·cases pre with
     | nil=>obtain rfl:=(List.cons.inj h9).1; exact ⟨rfl,h8,h7⟩
     | cons a pre=>have:=congrArg List.length h9; simp at this
   rw [hk] at q0 r0
   rw [ht] at q2 r2
   have FIN:KeepsFrom W0.heap.size W (W.setCell ⟨b + 1 + 1,0,none⟩ (.int .i64 1))∧KpT W (W.setCell ⟨b + 1 + 1,0,none⟩ (.int .i64 1))∧IsI w b x ([] ++ [y]) (W.setCell ⟨b + 1 + 1,0,none⟩ (.int .i64 1)):=by
    refine ⟨(KeepsOthers.setCell _ _ _).from _,⟨Nat.le_of_eq (by simp [World.setCell]),fun b' cs fr t ht h=>(Below.heap_setCell _ _ _ _ (fun e=>?_)).trans h⟩,⟨hi.ext.setCell (p:=⟨b + 1 + 1,0,none⟩) (by show w.heap.size ≤ b + 1 + 1; omega) _,hi.b1.far (p:=⟨b + 1 + 1,0,none⟩) n1 _,hi.b2.far (p:=⟨b + 1 + 1,0,none⟩) (by show b + 1 ≠ b + 1 + 1; omega) _,hi.b3.set_ 0 (.int .i64 1),hi.bn.far (p:=⟨b + 1 + 1,0,none⟩) (by show b + 1 + 1 + 1 ≠ b + 1 + 1; omega) _,hgood⟩⟩
    have e':b'=b + 1 + 1:=e
    subst e'
    have h9:=h.symm.trans hi.b3
    rcases ht with rfl | rfl <;> simp at h9
   have FINH:=Lib.hid FIN
   simp only [List.length_nil,Int.natCast_zero,Int.zero_add,Int.cast_ofNat_Int] at c3 r3 r0 r2 s0 s2 d2 hwm
   clear FIN hi hB hlt hgood BAD
   gi_wp2
   all_goals
    try gi_region
   all_goals
    try gi_wp2
   all_goals
    exact FINH.out
  ·obtain ⟨hKO,hNO⟩:=BAD.out hgood
   have HKO:=Lib.hid hKO
   have HNO:=Lib.hid hNO
   have hcase:pre ≠ [] ∨ (pre=[]∧y.kind ≠ x.kind) ∨ (pre=[]∧y.kind=x.kind∧y.text ≠ x.text):=by
    by_cases h1:pre=[]
    ·subst h1
     by_cases h2:y.kind=x.kind
     ·exact .inr (.inr ⟨rfl,h2,fun h3=>hgood (.inr ⟨y,rfl,h2,h3⟩)⟩)
     ·exact .inr (.inl ⟨rfl,h2⟩)
    ·exact .inl h1
   clear hi hB hlt hgood BAD hKO hNO
   rcases hcase with h1 | ⟨rfl,h2⟩ | ⟨rfl,h2,h3⟩
   ·have hbig:(1:Int) < (pre.length:Int) + 1:=by have:=List.length_pos_iff.2 h1; omega
    gi_wp2
    all_goals
     try gi_region
    all_goals
     try gi_wp2
    all_goals
     first
      | exact ⟨HKO.out.from _,rfl,HNO.out⟩
      | exact ⟨(HKO.out.trans (KeepsOthers.drew _)).from _,rfl,HNO.out⟩
   ·have k2:(y.kind == x.kind)=false:=beq_eq_false_iff_ne.2 h2
    simp only [List.length_nil,Int.natCast_zero,Int.zero_add,Int.cast_ofNat_Int] at c3 r3 r0 r2 s0 s2 d2 hwm HKO
    gi_wp2
    all_goals
     try gi_region
    all_goals
     try gi_wp2
    all_goals
     first
      | exact ⟨HKO.out.from _,rfl,HNO.out⟩
      | exact ⟨(HKO.out.trans (KeepsOthers.drew _)).from _,rfl,HNO.out⟩
   ·have k3:=bs_ne h3
    rw [h2] at q0 r0
    simp only [List.length_nil,Int.natCast_zero,Int.zero_add,Int.cast_ofNat_Int] at c3 r3 r0 r2 s0 s2 d2 hwm HKO
    gi_wp2
    all_goals
     try gi_region
    all_goals
     try gi_wp2
    all_goals
     first
      | exact ⟨HKO.out.from _,rfl,HNO.out⟩
      | exact ⟨(HKO.out.trans (KeepsOthers.drew _)).from _,rfl,HNO.out⟩
 case done =>
  intro D xs W hD hS hi hK
  have hS2:=hS.trans HYL.out
  subst hS2
  have c2:W.cell? ⟨b + 1,0,none⟩=some (.bool false):=hi.b2.cell 0
  have c3:W.cell? ⟨b + 1 + 1,0,none⟩=some (.int .i64 1):=hi.b3.cell 0
  have z2:=hi.b2.frozen
  have HI:=Lib.hid hi
  have HK:=Lib.hid hK
  clear hi hK
  go_wp2_with fail
  obtain ⟨e1,e2,e3⟩:=is_end (.bool true) HI.out.ext HI.out.b2 (by omega) HK.out (by omega) (.deferred none)
  refine ⟨by simp,.inl ⟨_,_,rfl,run_takeDeferred e1,?_⟩⟩
  exact ⟨_,is_res rfl e2,rfl,e3⟩
 case stop =>
  rintro D c pre W hD hSp ⟨_,h⟩ hK
  rw [HYL.out] at hSp
  refine absurd ?_ h
  obtain ⟨q,hq⟩:=hSp
  cases pre with
  | nil=>exact .inl rfl
  | cons z pre =>
   obtain ⟨e1,e2⟩:=List.cons.inj hq
   obtain ⟨rfl,_⟩:=List.append_eq_nil_iff.1 e2
   exact .inr ⟨z,rfl,by rw [e1],by rw [e1]⟩
end Go.Proofs.YtmmnhbhnjiajhaaGreatDoor.c
