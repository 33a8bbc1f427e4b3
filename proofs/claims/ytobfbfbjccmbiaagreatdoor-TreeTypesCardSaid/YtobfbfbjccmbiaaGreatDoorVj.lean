/- lex.Lex: the tokens of a source, or where none begins: a contract. No condition. -/
import Derived.Test.YtobfbfbjccmbiaaGreatDoorVh
import Derived.RangeFuncBox
import Derived.Deep.MidRow
namespace Go.Proofs.YtobfbfbjccmbiaaGreatDoor.c
open Go.RowKit
attribute [local go_sem] Oper.semAt_some
set_option linter.unusedVariables false
set_option maxRecDepth 100000
set_option maxHeartbeats 3200000
set_option linter.unusedSimpArgs false
theorem tokens_fn (s:ByteArray) (w:World):Calls Tryz.prog 41 #[.string s] w fun e w'=>e=.returned (.func (.func 73) #[] #[.pointer (some ⟨w.heap.size,0,none⟩)])∧w'=w.alloc (.cells #[.string s] 9):=by
 have hmf:∀ (fn:Fn) (first cap:Array Value) (w:World),(Instr.makeFunc fn first cap).run Tryz.prog w=.ok (.func fn first cap) w:=fun _ _ _ _=>rfl
 go_enter Tryz.func41,Tryz.ntmps41
 go_wp2_with fail
 go_ret
 exact ⟨rfl,rfl⟩
def lexS (s:ByteArray):List Tok × Nat × Int :=
 if 4000 < s.size then ([],0,3)
 else if (toks s 0 []).2.2=true then (if 1000 < (toks s 0 []).1.length then ([],0,3) else ((toks s 0 []).1,(toks s 0 []).1.length,0))
 else ([],(toks s 0 []).2.1,2)
theorem keepC {W W':World} {row:Option Nat} {B:Nat} (g:W.grownBy W' row) (hr:∀ r,row=some r → B ≤ r∧∃ o:Obj,W.heap[r]?=some o∧o.isCells=false) {k:Nat} {cs:Array Value} {t:TypeId} {fr:Nat × Nat} (h:W.heap[k]?=some (Obj.cells cs t fr)):W'.heap[k]?=some (Obj.cells cs t fr) :=
 (g.block k (Array.getElem?_eq_some_iff.1 h).1 (fun e=>by obtain ⟨_,o,ho,hc⟩:=hr k e.symm; rw [h] at ho; cases ho; cases hc)).trans h
theorem keepX {w W W':World} {row:Option Nat} {B:Nat} (x:Ext w W) (hB:w.heap.size ≤ B) (g:W.grownBy W' row) (hr:∀ r,row=some r → B ≤ r∧∃ o:Obj,W.heap[r]?=some o∧o.isCells=false):Ext w W' :=
 ⟨x.out.grown g x.size fun r e=>Nat.le_trans hB (hr r e).1⟩
theorem keepO {W W':World} {row:Option Nat} {B base sz n:Nat} {e:TypeId} {v:Value} {xs:List Value} (h:W.ownsRow base e sz v n xs) (g:W.grownBy W' row) (hr:∀ r,row=some r → B ≤ r∧∃ o:Obj,W.heap[r]?=some o∧o.isCells=false):W'.ownsRow base e sz v n xs:=by
 refine h.kept g ?_
 rcases h.2 with ⟨rfl,_⟩ | ⟨q,cap,cur,rfl,_,hgb,_⟩
 ·exact .inl rfl
 ·refine .inr fun e'=>?_
  obtain ⟨_,o,ho,hc⟩:=hr q (by simpa [Value.ownBlock] using e'.symm)
  rw [hgb] at ho; cases ho; cases hc
theorem bs_nl' {s:ByteArray} (h:¬ s.size=0):(s.toList == [])=false:=beq_eq_false_iff_ne.2 fun e=>h (by rw [Lib.size_eq,← Lib.toList_data,e]; rfl)
theorem app_keep {W w1:World} {base n:Nat} {v:Value} {xs:List Value} {o:Obj} (hr:W.ownsRow base 76 3 v n xs) (g:(W.alloc o).grownBy w1 v.ownBlock) {B b:Nat} (hb:b ≠ B) {t:TypeId} (ht:t ≠ 76) {cs:Array Value} {fr:Nat × Nat} (h:W.heap[b]?=some (Obj.cells cs t fr)) (v':Value):(w1.setCell ⟨B,0,none⟩ v').heap[b]?=some (Obj.cells cs t fr):=by
 have hl:=(Array.getElem?_eq_some_iff.1 h).1
 refine (Below.heap_setCell _ _ _ _ hb).trans ((g.block b (by simp; omega) fun e=>?_).trans ((Below.heap_alloc W o b hl).trans h))
 rcases hr.2 with ⟨rfl,_⟩ | ⟨q,cap,cur,rfl,_,hgb,_⟩
 ·simp [Value.ownBlock] at e
 ·obtain rfl:b=q:=by simpa [Value.ownBlock] using e
  have h9:=h.symm.trans hgb
  simp at h9
  exact ht h9.2.1
theorem lex_end {w W:World} {b2 b3 b4 D:Nat} {x2 x3 x4:Value} (u2 u3 u4:Value) (hx:Ext w W) (k2:Blk W b2 37 #[x2]) (k3:Blk W b3 3 #[x3]) (k4:Blk W b4 24 #[x4]) (h23:b2 ≠ b3) (h24:b2 ≠ b4) (h34:b3 ≠ b4) (l2:w.heap.size ≤ b2) (l3:w.heap.size ≤ b3) (l4:w.heap.size ≤ b4) (hD:W.heap[D]?=some (.deferred (some []))) (lD:w.heap.size ≤ D) (o':Obj) :
  (((W.setCell ⟨b2,0,none⟩ u2).setCell ⟨b3,0,none⟩ u3).setCell ⟨b4,0,none⟩ u4).heap[D]?=some (.deferred (some [])) ∧
  Boxed ((((W.setCell ⟨b2,0,none⟩ u2).setCell ⟨b3,0,none⟩ u3).setCell ⟨b4,0,none⟩ u4).putObj D o') b2 37 u2∧Boxed ((((W.setCell ⟨b2,0,none⟩ u2).setCell ⟨b3,0,none⟩ u3).setCell ⟨b4,0,none⟩ u4).putObj D o') b3 3 u3∧Boxed ((((W.setCell ⟨b2,0,none⟩ u2).setCell ⟨b3,0,none⟩ u3).setCell ⟨b4,0,none⟩ u4).putObj D o') b4 24 u4 ∧
  Ext w ((((W.setCell ⟨b2,0,none⟩ u2).setCell ⟨b3,0,none⟩ u3).setCell ⟨b4,0,none⟩ u4).putObj D o')∧∀ base n v xs,W.ownsRow base 76 3 v n xs → ((((W.setCell ⟨b2,0,none⟩ u2).setCell ⟨b3,0,none⟩ u3).setCell ⟨b4,0,none⟩ u4).putObj D o').ownsRow base 76 3 v n xs:=by
 have d2:D ≠ b2:=fun e=>by subst e; rw [show W.heap[D]?=_ from k2] at hD; cases hD
 have d3:D ≠ b3:=fun e=>by subst e; rw [show W.heap[D]?=_ from k3] at hD; cases hD
 have d4:D ≠ b4:=fun e=>by subst e; rw [show W.heap[D]?=_ from k4] at hD; cases hD
 have hD2:(((W.setCell ⟨b2,0,none⟩ u2).setCell ⟨b3,0,none⟩ u3).setCell ⟨b4,0,none⟩ u4).heap[D]?=some (.deferred (some [])):=(Below.heap_setCell _ _ _ _ d4).trans ((Below.heap_setCell _ _ _ _ d3).trans ((Below.heap_setCell _ _ _ _ d2).trans hD))
 have c2:Blk (((W.setCell ⟨b2,0,none⟩ u2).setCell ⟨b3,0,none⟩ u3).setCell ⟨b4,0,none⟩ u4) b2 37 #[u2]:=((k2.set_ 0 u2).far (p:=⟨b3,0,none⟩) h23 _).far (p:=⟨b4,0,none⟩) h24 _
 have c3:Blk (((W.setCell ⟨b2,0,none⟩ u2).setCell ⟨b3,0,none⟩ u3).setCell ⟨b4,0,none⟩ u4) b3 3 #[u3]:=((k3.far (p:=⟨b2,0,none⟩) h23.symm _).set_ 0 u3).far (p:=⟨b4,0,none⟩) h34 _
 have c4:Blk (((W.setCell ⟨b2,0,none⟩ u2).setCell ⟨b3,0,none⟩ u3).setCell ⟨b4,0,none⟩ u4) b4 24 #[u4]:=((k4.far (p:=⟨b2,0,none⟩) h24.symm _).far (p:=⟨b3,0,none⟩) h34.symm _).set_ 0 u4
 have x1:=((hx.setCell (p:=⟨b2,0,none⟩) l2 u2).setCell (p:=⟨b3,0,none⟩) l3 u3).setCell (p:=⟨b4,0,none⟩) l4 u4
 refine ⟨hD2,Boxed.kept c2 (grownBy_putObj' _ D o') (fun e=>d2 (Option.some.inj e).symm),Boxed.kept c3 (grownBy_putObj' _ D o') (fun e=>d3 (Option.some.inj e).symm),Boxed.kept c4 (grownBy_putObj' _ D o') (fun e=>d4 (Option.some.inj e).symm),⟨x1.out.grown (grownBy_putObj' _ D o') x1.size fun r e=>by cases e; exact lD⟩,fun base n v xs ho=>?_⟩
 have o2:=ho.kept (grownBy_setCell' W b2 u2) (.inr (Boxed.not_row k2 (by decide) ho).symm)
 have o3:=o2.kept (grownBy_setCell' _ b3 u3) (.inr (Boxed.not_row (k3.far (p:=⟨b2,0,none⟩) h23.symm _) (by decide) o2).symm)
 have o4:=o3.kept (grownBy_setCell' _ b4 u4) (.inr (Boxed.not_row ((k4.far (p:=⟨b2,0,none⟩) h24.symm _).far (p:=⟨b3,0,none⟩) h34.symm _) (by decide) o3).symm)
 exact ownsRow_putObj o4 _ hD2 rfl
structure LxI (w:World) (b2 b3 b4 b5 bn:Nat) (s:ByteArray) (pre:List Tok) (W:World):Prop where
 x:Ext w W
 b2:Blk W b2 37 #[.slice none 0 0]
 b3:Blk W b3 3 #[.int .i64 0]
 b4:Blk W b4 24 #[.int .i64 0]
 bn:Blk W bn 9 #[.string s]
 out:∃ v,Boxed W b5 37 v∧W.ownsRow w.heap.size 76 3 v pre.length (pre.flatMap Tok.cells)
 txt:∀ x ∈ pre,hasT x=true
structure LxX (w:World) (b2 b3 b4:Nat) (pre:List Tok) (W:World):Prop where
 x:Ext w W
 b2:Blk W b2 37 #[.slice none 0 0]
 b4:Blk W b4 24 #[.int .i64 2]
 las:∃ p y,pre=p ++ [y]∧hasT y=false∧Blk W b3 3 #[.int .i64 y.at_]
theorem LxI.own {w:World} {b2 b3 b4 b5 bn B:Nat} {s:ByteArray} (hB:w.heap.size ≤ B):OwnFrom B (LxI w b2 b3 b4 b5 bn s):=fun pre W W' row h g hr=>by
 obtain ⟨v,hv,ho⟩:=h.out
 exact ⟨keepX h.x hB g hr,keepC g hr h.b2,keepC g hr h.b3,keepC g hr h.b4,keepC g hr h.bn,⟨v,keepC g hr hv,keepO ho g hr⟩,h.txt⟩
theorem LxX.own {w:World} {b2 b3 b4 B:Nat} (hB:w.heap.size ≤ B):OwnFrom B (LxX w b2 b3 b4):=fun pre W W' row h g hr=>by
 obtain ⟨p,y,e,hy,hb⟩:=h.las
 exact ⟨keepX h.x hB g hr,keepC g hr h.b2,keepC g hr h.b4,⟨p,y,e,hy,keepC g hr hb⟩⟩
theorem lex_res {tmps:Array Value} {W:World} {b2 b3 b4:Nat} {v1 v2 v3:Value} (h2:tmps.getD 2 undef=.pointer (some ⟨b2,0,none⟩)) (h3:tmps.getD 3 undef=.pointer (some ⟨b3,0,none⟩)) (h4:tmps.getD 4 undef=.pointer (some ⟨b4,0,none⟩))
  (k2:Boxed W b2 37 v1) (k3:Boxed W b3 3 v2) (k4:Boxed W b4 24 v3):(results Tryz.f18 tmps).run Tryz.prog W=.ok (.tuple #[v1,v2,v3]) W:=by
 simp only [Array.getD_eq_getD_getElem?] at h2 h3 h4
 have c2:=k2.cell
 have c3:=k3.cell
 have c4:=k4.cell
 simp only [results,Tryz.results18]
 simp [go_sem,h2,h3,h4,c2,c3,c4]
def tokA (x:Tok):Array Value:=#[.int .i64 x.kind,.int .i64 x.at_,.string x.text]
theorem lex_any (s:ByteArray) (w:World):Calls Tryz.prog 18 #[.string s] w fun e w'=>∃ v,e=.returned (.tuple #[v,.int .i64 (lexS s).2.1,.int .i64 (lexS s).2.2])∧w'.ownsRow w.heap.size 76 3 v (lexS s).1.length ((lexS s).1.flatMap Tok.cells)∧Ext w w':=by
 refine (callsIn_wide (n:=10)).1 ?_
 refine callsIn_of_wp_marks Tryz.func18 rfl trivial ?_ rfl
 simp only [Tryz.ntmps18,List.size_toArray,List.length_cons,List.length_nil,Nat.reduceAdd,Nat.reduceSub,Array.replicate_succ,Array.replicate_zero,List.push_toArray,List.append_toArray,List.nil_append,List.cons_append]
 refine wpIn_wide.2 ?_
 by_cases hbig:4000 < s.size
 ·have hbi:(4000:Int) < (s.size:Int):=by omega
  have HL:Hid (lexS s=([],0,3)):=if_pos hbig
  rw [HL.out]
  go_wp2_with fail
  refine ⟨.tuple #[.slice none 0 0,.int .i64 0,.int .i64 3],lex_res rfl rfl rfl (((Boxed.new w _ _).alloc _).alloc _) ((by have q:=Boxed.new (w.alloc (.cells #[.slice none 0 0] 37)) 3 (.int .i64 0); rw [size_alloc] at q; exact q:Boxed _ _ _ _).alloc _) (by have q:=Boxed.new ((w.alloc (.cells #[.slice none 0 0] 37)).alloc (.cells #[.int .i64 0] 3)) 24 (.int .i64 3); rw [size_alloc,size_alloc] at q; exact q),?_⟩
  exact ⟨_,rfl,World.ownsRow_nil _ _ _ _,exA⟩
 ·have hbi:¬ (4000:Int) < (s.size:Int):=by omega
  go_wp2_with (first
   | (go_at_call 41; refine (tokens_fn _ _).mono ?_; rintro e w1 ⟨rfl,hw1⟩))
  generalize hb2:w.heap.size=b2
  have hW0:∃ W0,(((((w.alloc (.cells #[.slice none 0 0] 37)).alloc (.cells #[.int .i64 0] 3)).alloc (.cells #[.int .i64 0] 24)).alloc (.cells #[.slice none 0 0] 37)).alloc (.cells #[.string s] 9))=W0:=⟨_,rfl⟩
  obtain ⟨W0,hW0⟩:=hW0
  have hsz:W0.heap.size=b2 + 5:=by rw [← hW0,← hb2]; simp
  have hI:LxI w b2 (b2 + 1) (b2 + 1 + 1) (b2 + 1 + 1 + 1) (b2 + 1 + 1 + 1 + 1) s [] W0:=by
   have q1:=Boxed.new w 37 (.slice none 0 0)
   have q2:=Boxed.new (w.alloc (.cells #[.slice none 0 0] 37)) 3 (.int .i64 0)
   have q3:=Boxed.new ((w.alloc (.cells #[.slice none 0 0] 37)).alloc (.cells #[.int .i64 0] 3)) 24 (.int .i64 0)
   have q4:=Boxed.new (((w.alloc (.cells #[.slice none 0 0] 37)).alloc (.cells #[.int .i64 0] 3)).alloc (.cells #[.int .i64 0] 24)) 37 (.slice none 0 0)
   have q5:=Boxed.new ((((w.alloc (.cells #[.slice none 0 0] 37)).alloc (.cells #[.int .i64 0] 3)).alloc (.cells #[.int .i64 0] 24)).alloc (.cells #[.slice none 0 0] 37)) 9 (.string s)
   simp only [size_alloc,hb2] at q1 q2 q3 q4 q5
   rw [← hW0]
   exact ⟨exA,(((q1.alloc _).alloc _).alloc _).alloc _,((q2.alloc _).alloc _).alloc _,(q3.alloc _).alloc _,q5,⟨_,q4.alloc _,World.ownsRow_nil _ _ _ _⟩,fun x hx=>absurd hx (by simp)⟩
  have hbn:Blk W0 (b2 + 1 + 1 + 1 + 1) 9 #[.string s]:=hI.bn
  have hww:w.heap.size ≤ W0.heap.size:=by omega
  have hwb:w.heap.size ≤ b2:=Nat.le_of_eq hb2
  have hwz:b2 + 5 ≤ W0.heap.size:=Nat.le_of_eq hsz.symm
  rw [hW0]
  clear hb2 hsz hW0
  obtain ⟨i0,hi0,hz0,hz1,hz2⟩:=info_parts Tryz.infoTok
  have HTY:=toks_yl s s.size 0 [] (by omega) (by omega)
  refine (wpIn_wide (n:=10)).1 ?_
  refine wpIn_rangeFunc_ownH rfl (by decide) (gf := 73) (lb:=#[.pointer (some ⟨b2 + 1 + 1 + 1 + 1,0,none⟩)]) rfl trivial (enters_of Tryz.func73 (by kernel_rfl) rfl)
   (tok_it 9 (by decide) (b2 + 1 + 1 + 1 + 1) s (by omega) W0 hbn) (fun h k=>h.trans k) (fun W l o o' _ hl hc _=>KpT.putObj o' hl hc) (Below.refl _ _) (fun _=>rfl)
   (LxI w b2 (b2 + 1) (b2 + 1 + 1) (b2 + 1 + 1 + 1) (b2 + 1 + 1 + 1 + 1) s)
   (fun c pre W=>c=.ret∧LxX w b2 (b2 + 1) (b2 + 1 + 1) pre W)
   (LxI.own hww) (fun c pre W W' row h g hr=>⟨h.1,LxX.own hww pre W W' row h.2 g hr⟩) hI
   (fun x a' W=>∃ bx,w.heap.size ≤ bx∧Blk W bx 76 (tokA x)∧a'={ tmps:=#[.string s,undef,.pointer (some ⟨b2,0,none⟩),.pointer (some ⟨b2 + 1,0,none⟩),.pointer (some ⟨b2 + 1 + 1,0,none⟩),.pointer (some ⟨b2 + 1 + 1 + 1,0,none⟩),.pointer (some ⟨bx,0,none⟩),.string s,.int .i64 s.size,.bool false,.string s,.func (.func 73) #[] #[.pointer (some ⟨b2 + 1 + 1 + 1 + 1,0,none⟩)],.agg (tokA x),undef,undef,undef,undef,undef,undef,undef,undef,undef,undef,undef,undef,undef,undef,undef],defers:=[] })
   (fun x a' _ W W' row h g hr=>by obtain ⟨bx,hl,hb,ha⟩:=h; exact ⟨bx,hl,keepC g hr hb,ha⟩) ?assign ?body ?done ?stop
  case assign =>
   intro l pre x W K hi hK
   dsimp only [encT]
   gi_wp2
   have hx:Ext W (W.alloc (.cells (tokA x) 76)):=(Ext.refl W).alloc _
   obtain ⟨v,hv,ho⟩:=hi.out
   refine hK _ _ ((KeepsOthers.alloc _ _).from _) (KpT.ext hx) ⟨hi.x.alloc _,hi.b2.alloc _,hi.b3.alloc _,hi.b4.alloc _,hi.bn.alloc _,⟨v,hv.alloc _,ho.alloc _⟩,hi.txt⟩ ⟨W.heap.size,hi.x.size,Blk.new W _ _,rfl⟩
  case body =>
   rintro l pre x a' W hl ⟨rc,hrc⟩ hi ⟨bx,hbx,hB,rfl⟩ hlt
   have q2:W.cell? ⟨bx,2,none⟩=some (.string x.text):=hB.cell 2
   have q1:W.cell? ⟨bx,1,none⟩=some (.int .i64 x.at_):=hB.cell 1
   have q0:W.cell? ⟨bx,0,none⟩=some (.int .i64 x.kind):=hB.cell 0
   obtain ⟨v,hv,ho⟩:=hi.out
   by_cases hx:x.text.size=0
   ·have hxe:x.text=⟨#[]⟩:=by
     have:x.text.data.toList=[]:=List.eq_nil_of_length_eq_zero (by rw [← Lib.size_eq]; exact hx)
     exact ByteArray.ext (Array.toList_inj.1 this)
    have hxt:hasT x=false:=by unfold hasT; rw [hx]; rfl
    have HB:=Lib.hid hB
    have HI:=Lib.hid hi
    rw [hxe] at q2
    have c2:W.cell? ⟨b2,0,none⟩=some (.slice none 0 0):=hi.b2.cell 0
    have c3:W.cell? ⟨b2 + 1,0,none⟩=some (.int .i64 0):=hi.b3.cell 0
    have c4:W.cell? ⟨b2 + 1 + 1,0,none⟩=some (.int .i64 0):=hi.b4.cell 0
    have n2:bx ≠ b2:=fun e=>by subst e; have h9:=(show W.heap[bx]?=_ from hB).symm.trans hi.b2; simp at h9
    have n3:bx ≠ b2 + 1:=fun e=>by subst e; have h9:=(show W.heap[b2 + 1]?=_ from hB).symm.trans hi.b3; simp at h9
    have n4:bx ≠ b2 + 1 + 1:=fun e=>by subst e; have h9:=(show W.heap[b2 + 1 + 1]?=_ from hB).symm.trans hi.b4; simp at h9
    have z2:=hi.b2.frozen
    have z3:=hi.b3.frozen
    have z4:=hi.b4.frozen
    clear hB hi ho hv hxe
    have FIN:KeepsFrom W0.heap.size W (((W.setCell ⟨b2,0,none⟩ (.slice none 0 0)).setCell ⟨b2 + 1,0,none⟩ (.int .i64 x.at_)).setCell ⟨b2 + 1 + 1,0,none⟩ (.int .i64 2)).drew∧LxX w b2 (b2 + 1) (b2 + 1 + 1) (pre ++ [x]) (((W.setCell ⟨b2,0,none⟩ (.slice none 0 0)).setCell ⟨b2 + 1,0,none⟩ (.int .i64 x.at_)).setCell ⟨b2 + 1 + 1,0,none⟩ (.int .i64 2)).drew:=by
     refine ⟨((((KeepsOthers.setCell _ _ _).trans (KeepsOthers.setCell _ _ _)).trans (KeepsOthers.setCell _ _ _)).trans (KeepsOthers.drew _)).from _,?_⟩
     have i:=HI.out
     refine ⟨(((i.x.setCell (p:=⟨b2,0,none⟩) hwb _).setCell (p:=⟨b2 + 1,0,none⟩) (by show w.heap.size ≤ b2 + 1; omega) _).setCell (p:=⟨b2 + 1 + 1,0,none⟩) (by show w.heap.size ≤ b2 + 1 + 1; omega) _).drew,?_,?_,⟨pre,x,rfl,hxt,?_⟩⟩
     ·exact ((i.b2.set_ 0 (.slice none 0 0)).far (p:=⟨b2 + 1,0,none⟩) (by show b2 ≠ b2 + 1; omega) _).far (p:=⟨b2 + 1 + 1,0,none⟩) (by show b2 ≠ b2 + 1 + 1; omega) _
     ·exact ((i.b4.far (p:=⟨b2,0,none⟩) (by show b2 + 1 + 1 ≠ b2; omega) _).far (p:=⟨b2 + 1,0,none⟩) (by show b2 + 1 + 1 ≠ b2 + 1; omega) _).set_ 0 (.int .i64 2)
     ·exact ((i.b3.far (p:=⟨b2,0,none⟩) (by show b2 + 1 ≠ b2; omega) _).set_ 0 (.int .i64 x.at_)).far (p:=⟨b2 + 1 + 1,0,none⟩) (by show b2 + 1 ≠ b2 + 1 + 1; omega) _
    have FINH:=Lib.hid FIN
    clear FIN
    gi_wp2
    gi_region
    all_goals
     gi_wp2
     exact ⟨FINH.out.1,rfl,FINH.out.2⟩
   ·have hxt:hasT x=true:=decide_eq_true (Nat.pos_of_ne_zero hx)
    have hxe:(x.text.toList == [])=false:=bs_nl' hx
    have hpl:pre.length + 1 ≤ 4000:=by omega
    have HI:=Lib.hid hi
    have HB:=Lib.hid hB
    have HO:=Lib.hid ho
    have HV:=Lib.hid hv
    have cv:W.cell? ⟨b2 + 1 + 1 + 1,0,none⟩=some v:=hv.cell
    have zv:=hv.frozen
    clear hi hB ho hv hlt
    gi_wp2_with (gi_at_builtin; refine wpListIn_append_own _ rfl _ _ 37 rfl w.heap.size 76 i0 _ 3 32 Tryz.underlying37 hi0 hz0 hz1 hz2 rfl (by decide) _ _ _ rfl (HO.out.alloc _) ⟨W.heap.size,0,none⟩ 1 1 (tokA x).toList rfl rfl ?c1 ?c2 ?c3 ?c4 ?c5 ?_)
    case c1 =>
     intro j u hj
     rw [Addr.add_mid,Nat.zero_add,← hj]
     exact ((Blk.new W 76 (tokA x)).cell j).trans (by simp)
    case c2 =>
     intro u hu
     simp only [tokA,List.mem_cons,List.not_mem_nil,or_false] at hu
     rcases hu with rfl | rfl | rfl <;> rfl
    case c3=>unfold maxLen; omega
    case c4=>omega
    case c5=>have:=HI.out.x.size; simp; omega
    ·intro v' w1' hown' hgrow _
     obtain ⟨g',cap',rfl⟩:=ownsRow_succ hown'
     obtain ⟨hv1,hv2,hr2,hk2,hbw⟩:=HV.out.appended (by decide) HO.out HI.out.x.size (by omega) hown' hgrow
     have hc1:=hv1.cell
     have hf1:=hv1.frozen
     have APP:=Lib.hid fun b t cs fr (ht:t ≠ 76) (hb:b ≠ b2 + 1 + 1 + 1) (h:W.heap[b]?=some (Obj.cells cs t fr))=>app_keep HO.out hgrow hb ht h (.slice (some ⟨g',0,none⟩) (pre.length + 1) cap')
     have FIN:KeepsFrom W0.heap.size W (w1'.setCell ⟨b2 + 1 + 1 + 1,0,none⟩ (.slice (some ⟨g',0,none⟩) (pre.length + 1) cap'))∧KpT W (w1'.setCell ⟨b2 + 1 + 1 + 1,0,none⟩ (.slice (some ⟨g',0,none⟩) (pre.length + 1) cap'))∧LxI w b2 (b2 + 1) (b2 + 1 + 1) (b2 + 1 + 1 + 1) (b2 + 1 + 1 + 1 + 1) s (pre ++ [x]) (w1'.setCell ⟨b2 + 1 + 1 + 1,0,none⟩ (.slice (some ⟨g',0,none⟩) (pre.length + 1) cap')):=by
      have i:=HI.out
      refine ⟨hk2.from _,⟨hk2.size,fun b cs fr t ht h=>APP.out b t cs fr (by rcases ht with rfl | rfl <;> decide) (fun e=>?_) h⟩,⟨⟨i.x.out.trans hbw⟩,APP.out _ _ _ _ (by decide) (by omega) i.b2,APP.out _ _ _ _ (by decide) (by omega) i.b3,APP.out _ _ _ _ (by decide) (by omega) i.b4,APP.out _ _ _ _ (by decide) (by omega) i.bn,⟨_,hv2,?_⟩,fun y hy=>?_⟩⟩
      ·subst e
       have h9:=h.symm.trans HV.out
       rcases ht with rfl | rfl <;> simp at h9
      ·rw [List.length_append,List.flatMap_append]
       simpa [Tok.cells,tokA] using hr2
      ·rcases List.mem_append.1 hy with hy | hy
       ·exact i.txt y hy
       ·rw [List.mem_singleton.1 hy]; exact hxt
     have FINH:=Lib.hid FIN
     clear FIN APP hk2 hbw hr2 hv2 hown' hgrow
     gi_wp2
     exact FINH.out
  case done =>
   intro D xs W hD hS hi hK
   have HS:=Lib.hid hS
   clear hS
   obtain ⟨v,hv,ho⟩:=hi.out
   have cv:W.cell? ⟨b2 + 1 + 1 + 1,0,none⟩=some v:=hv.cell
   have HI:=Lib.hid hi
   have HO:=Lib.hid ho
   have HV:=Lib.hid hv
   have HK:=Lib.hid hK
   obtain ⟨A,k,hvs⟩:∃ A k,v=.slice A xs.length k:=by
    rcases ho.2 with ⟨rfl,e⟩ | ⟨q,cap,cur,rfl,_⟩
    ·exact ⟨none,0,by rw [e]⟩
    ·exact ⟨_,_,rfl⟩
   subst hvs
   have c2:W.cell? ⟨b2,0,none⟩=some (.slice none 0 0):=hi.b2.cell 0
   have c3:W.cell? ⟨b2 + 1,0,none⟩=some (.int .i64 0):=hi.b3.cell 0
   have c4:W.cell? ⟨b2 + 1 + 1,0,none⟩=some (.int .i64 0):=hi.b4.cell 0
   have z2:=hi.b2.frozen
   have z3:=hi.b3.frozen
   have z4:=hi.b4.frozen
   clear hi ho hv hK
   have HTK:Hid (toks s 0 []=(yl s 0,0,true)):=HTY.1 (by rw [← HS.out]; exact HI.out.txt)
   by_cases hbt:1000 < xs.length
   ·have hbti:(1000:Int) < (xs.length:Int):=by omega
    have HR:Hid (lexS s=([],0,3)):=by
     unfold Hid lexS
     rw [if_neg hbig,HTK.out]
     simp only [if_true]
     rw [if_pos (by rw [← HS.out]; exact hbt)]
    go_wp2_with fail
    obtain ⟨e1,e2,e3,e4,e5,e6⟩:=lex_end (.slice none 0 0) (.int .i64 0) (.int .i64 3) HI.out.x HI.out.b2 HI.out.b3 HI.out.b4 (by omega) (by omega) (by omega) hwb (by omega) (by omega) HK.out (by omega) (.deferred none)
    refine ⟨by simp,.inl ⟨_,_,rfl,run_takeDeferred e1,?_⟩⟩
    exact ⟨_,lex_res rfl rfl rfl e2 e3 e4,_,by rw [HR.out]; rfl,by rw [HR.out]; exact World.ownsRow_nil _ _ _ _,e5⟩
   ·have hbti:¬ (1000:Int) < (xs.length:Int):=by omega
    have HR:Hid (lexS s=(xs,xs.length,0)):=by
     unfold Hid lexS
     rw [if_neg hbig,HTK.out]
     simp only [if_true]
     rw [if_neg (by rw [← HS.out]; exact hbt),← HS.out]
    go_wp2_with fail
    obtain ⟨e1,e2,e3,e4,e5,e6⟩:=lex_end (.slice A xs.length k) (.int .i64 xs.length) (.int .i64 0) HI.out.x HI.out.b2 HI.out.b3 HI.out.b4 (by omega) (by omega) (by omega) hwb (by omega) (by omega) HK.out (by omega) (.deferred none)
    have E1:=Lib.hid e1
    have E2:=Lib.hid e2
    have E3:=Lib.hid e3
    have E4:=Lib.hid e4
    have E5:=Lib.hid e5
    have E6:=Lib.hid (e6 _ _ _ _ HO.out)
    clear e1 e2 e3 e4 e5 e6
    go_region
    all_goals
     go_wp2_with fail
     refine ⟨by simp,.inl ⟨_,_,rfl,run_takeDeferred (b:=D) (w:=World.drew _) E1.out,?_⟩⟩
     exact ⟨_,lex_res rfl rfl rfl E2.out E3.out E4.out,_,by rw [HR.out],by rw [HR.out]; exact E6.out,E5.out.drew⟩
  case stop =>
   rintro D c pre W hD hSp ⟨rfl,hx⟩ hK
   obtain ⟨p,y,rfl,hy,h3⟩:=hx.las
   have hmem:y ∈ yl s 0:=hSp.subset (List.mem_append_right _ (List.mem_singleton_self y))
   obtain ⟨pre',he⟩:=HTY.2.2.1 y hmem hy
   have ht:=HTY.2.1 pre' y he hy
   have HR:Hid (lexS s=([],y.at_,2)):=by
    unfold Hid lexS
    rw [if_neg hbig,ht]
    rfl
   have hr:∀ r,some D=some r → W0.heap.size ≤ r∧∃ o:Obj,W.heap[r]?=some o∧o.isCells=false:=fun r e=>by cases e; exact ⟨hD,_,hK,rfl⟩
   have g:=grownBy_putObj' W D (.deferred none)
   have e2:=keepC g hr hx.b2
   have e3:=keepC g hr h3
   have e4:=keepC g hr hx.b4
   have e5:=keepX hx.x hww g hr
   gi_wp2
   refine ⟨by simp,.inl ⟨_,_,rfl,run_takeDeferred hK,?_⟩⟩
   exact ⟨_,lex_res rfl rfl rfl e2 e3 e4,_,by rw [HR.out],by rw [HR.out]; exact World.ownsRow_nil _ _ _ _,e5⟩
end Go.Proofs.YtobfbfbjccmbiaaGreatDoor.c
