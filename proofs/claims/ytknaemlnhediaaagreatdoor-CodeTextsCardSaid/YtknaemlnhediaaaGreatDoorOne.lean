/- The two codes that known looks at: what Check says of them. No program in sight. Contract of one. No condition. Contract of known. The table strings.asciiSpace holds what its text lays. -/
import Derived.Test.YtknaemlnhediaaaGreatDoorSane
import Derived.Test.YtknaemlnhediaaaGreatDoorStep
import Derived.Test.YtknaemlnhediaaaGreatDoorCheck
namespace Go.Proofs.YtknaemlnhediaaaGreatDoor.c
set_option linter.unusedVariables false
set_option maxRecDepth 100000
set_option maxHeartbeats 1600000
set_option linter.unusedSimpArgs false
def tyZ:Ty:=⟨0,0,⟨#[]⟩,false,false⟩
def tyU8:Ty:=⟨2,8,⟨#[]⟩,false,false⟩
def cPush:Cd:=⟨0,1,0,tyU8,⟨#[]⟩⟩
def cRet:Cd:=⟨17,0,0,tyZ,⟨#[]⟩⟩
def cBr:Cd:=⟨15,0,0,tyZ,⟨#[]⟩⟩
def fOne (A:Option Addr) (x:Cd):Fc:=⟨⟨#[102]⟩,0,0,tyZ,A,2,[cPush,x]⟩
theorem name_f:isNameS ⟨#[102]⟩=true:=by decide
theorem emp_nil:emp ⟨#[]⟩=true:=by
 unfold emp
 rw [Lib.toList_data]
 rfl
theorem ran_z:isRanS tyZ=true:=by simp [isRanS,isTypeS,tyZ,emp_nil]
theorem inst_push (l:List Fc) (f:Fc):instS l f cPush=true:=by simp [instS,shapeS,cPush,inB,pushS,isIntS,isPlainS,isTypeS,tyU8,bitsOk,emp_nil]
theorem inst_retC (l:List Fc) (f:Fc):instS l f cRet=true:=by simp [instS,shapeS,cRet,tz,tyZ,emp_nil]
theorem inst_br (l:List Fc) (f:Fc) (h:1 ≤ f.code.length):instS l f cBr=true:=by simp [instS,shapeS,cBr,tz,tyZ,emp_nil,inB]; omega
theorem valid_one (A:Option Addr) (x:Cd) (hx:x=cRet ∨ x=cBr):validS [fOne A x]=0:=by
 unfold validS
 rw [if_neg,if_pos]
 ·intro k hk
  have:k=0:=by simp at hk; omega
  subst this
  have e:[fOne A x].getD 0 default=fOne A x:=rfl
  rw [e]
  constructor
  ·unfold fcS
   rw [show (fOne A x).name=⟨#[102]⟩ from rfl,name_f,show (fOne A x).ty=tyZ from rfl,ran_z]
   rcases hx with rfl | rfl
   ·simp [fOne,inB,inst_push,inst_retC]
   ·simp [fOne,inB,inst_push,inst_br]
  ·exact findI_hit (k:=0) (by simp) (by simp) (by omega)
 ·rintro (h | h | ⟨f,hf,h⟩)
  ·simp at h
  ·simp [countS,fOne] at h
  ·rw [List.mem_singleton] at hf
   subst hf
   have:(fOne A x).places=0:=rfl
   omega
theorem reach_one {x:Cd} (hx:x=cRet ∨ x=cBr) {p:Int × Int} (h:Reach [cPush,x] p):p=(0,0) ∨ p=(1,1):=by
 induction h with
 | start=>exact .inl rfl
 | lead _ ok ld ih =>
  rcases ih with rfl | rfl
  ·cases ld
  ·rcases hx with rfl | rfl
   ·cases ld
   ·exact .inl rfl
 | next _ ok go ne ih =>
  rcases ih with rfl | rfl
  ·exact .inr rfl
  ·exact absurd rfl ne
theorem least_one:Least (BadIn [cPush,cRet] (Reach [cPush,cRet])) (-1):=by
 refine ⟨fun _=>⟨rfl,?_⟩,fun h=>absurd h (by decide)⟩
 rintro i (⟨p,hp,_,hb⟩ | ⟨p,q,hp,hq,h1,h2,hne⟩)
 ·rcases reach_one (.inl rfl) hp with rfl | rfl
  ·rcases hb with hb | hb
   ·cases hb
   ·exact absurd hb.2 (by decide)
  ·rcases hb with hb | hb
   ·cases hb
   ·cases hb.1
 ·rcases reach_one (.inl rfl) hp with rfl | rfl <;> rcases reach_one (.inl rfl) hq with rfl | rfl
  ·exact hne rfl
  ·simp only [] at h1 h2; omega
  ·simp only [] at h1 h2; omega
  ·exact hne rfl
theorem least_two:Least (BadIn [cPush,cBr] (Reach [cPush,cBr])) 1:=by
 refine ⟨fun h=>absurd h (by decide),fun _=>⟨.inl ⟨(1,1),?_,rfl,.inr ⟨rfl,rfl⟩⟩,?_⟩⟩
 ·exact Reach.next (c:=[cPush,cBr]) (p:=(0,0)) .start rfl rfl (by decide)
 rintro i (⟨p,hp,h1,hb⟩ | ⟨p,q,hp,hq,h1,h2,hne⟩)
 ·rcases reach_one (.inr rfl) hp with rfl | rfl
  ·rcases hb with hb | hb
   ·cases hb
   ·exact absurd hb.2 (by decide)
  ·simp only [] at h1; omega
 ·rcases reach_one (.inr rfl) hp with rfl | rfl <;> rcases reach_one (.inr rfl) hq with rfl | rfl
  ·exact absurd rfl hne
  ·simp only [] at h1 h2; omega
  ·simp only [] at h1 h2; omega
  ·simp only [] at h1; omega
open Go.RowKit
def oneCells (op:Int):Array Value:=#[.int .i64 0,.int .i64 1,.int .i64 0,.int .i64 2,.int .i64 8,.string ⟨#[]⟩,.bool false,.bool false,.string ⟨#[]⟩,.int .i64 op,.int .i64 0,.int .i64 0,.int .i64 0,.int .i64 0,.string ⟨#[]⟩,.bool false,.bool false,.string ⟨#[]⟩]
theorem one_any (w:World) :
  Calls Tryz.prog 58 #[] w fun e w'=>∃ g,w.heap.size ≤ g∧e=.returned (.agg #[.string ⟨#[102]⟩,.int .i64 0,.int .i64 0,.int .i64 0,.int .i64 0,.string ⟨#[]⟩,.bool false,.bool false,.slice (some ⟨g,0,none⟩) 2 2])∧Ext w w'∧Blk w' g 93 (oneCells 17):=by
 have HZ:Hid ((Tryz.prog.info? 62).map (·.size)=some 9):=by unfold Hid; kernel_rfl
 go_enter Tryz.func58,Tryz.ntmps58
 go_wp2
 refine bodyPost_ret (results_cell_row rfl _ _ w.heap.size 62 #[.string ⟨#[102]⟩,.int .i64 0,.int .i64 0,.int .i64 0,.int .i64 0,.string ⟨#[]⟩,.bool false,.bool false,.slice (some ⟨w.heap.size + 1,0,none⟩) 2 2] (0,0) _ rfl ((Blk.new w _ _).alloc _) Tryz.underlying62 rfl HZ.out) rfl ⟨w.heap.size + 1,by omega,rfl,exA,new2 _ _ _ _⟩
theorem fcAt_one {W:World} {k g:Nat} {x:Cd} (hx:x=cRet ∨ x=cBr)
  (h1:Blk W k 62 #[.string ⟨#[102]⟩,.int .i64 0,.int .i64 0,.int .i64 0,.int .i64 0,.string ⟨#[]⟩,.bool false,.bool false,.slice (some ⟨g,0,none⟩) 2 2]) (h2:Blk W g 93 (oneCells x.op)):FcAt W (some ⟨k,0,none⟩) [fOne (some ⟨g,0,none⟩) x]:=by
 refine ⟨fun _=>⟨k,0,rfl,h1.lt,fun i j hi hj=>?_⟩,fun f hf=>?_⟩
 ·have:i=0:=by simp at hi; omega
  subst this
  rw [Nat.zero_add,Nat.zero_mul,Nat.zero_add,h1.cell j]
  match j,hj with
  | 0,_=>rfl
  | 1,_=>rfl
  | 2,_=>rfl
  | 3,_=>rfl
  | 4,_=>rfl
  | 5,_=>rfl
  | 6,_=>rfl
  | 7,_=>rfl
  | 8,_=>rfl
 ·rw [List.mem_singleton] at hf
  subst hf
  refine fun _=>⟨g,0,rfl,h2.lt,fun i j hi hj=>?_⟩
  rw [Nat.zero_add,h2.cell]
  have hi2:i < 2:=hi
  rcases hx with rfl | rfl <;>
  ·match i,hi2,j,hj with
   | 0,_,0,_=>rfl
   | 0,_,1,_=>rfl
   | 0,_,2,_=>rfl
   | 0,_,3,_=>rfl
   | 0,_,4,_=>rfl
   | 0,_,5,_=>rfl
   | 0,_,6,_=>rfl
   | 0,_,7,_=>rfl
   | 0,_,8,_=>rfl
   | 1,_,0,_=>rfl
   | 1,_,1,_=>rfl
   | 1,_,2,_=>rfl
   | 1,_,3,_=>rfl
   | 1,_,4,_=>rfl
   | 1,_,5,_=>rfl
   | 1,_,6,_=>rfl
   | 1,_,7,_=>rfl
   | 1,_,8,_=>rfl
open Go.RowKit
theorem check_ret (A:Option Addr):checkE [fOne A cRet]=(0,0,0) :=
 check_good (valid_one A cRet (.inl rfl)) (fun j hj=>by
  have:j=0:=by simp at hj; omega
  subst this
  have e:unsoundS ([fOne A cRet].getD 0 default).code=-1:=unsound_eq (c:=[cPush,cRet]) least_one
  rw [e]; decide)
theorem check_br (A:Option Addr):checkE [fOne A cBr]=(0,1,7):=by
 have e:unsoundS ([fOne A cBr].getD 0 default).code=1:=unsound_eq (c:=[cPush,cBr]) least_two
 have h:=check_bad (valid_one A cBr (.inr rfl)) (k:=0) (by simp) (by rw [e]; decide) (fun j hj=>by omega)
 rw [e] at h
 exact h
theorem check_one {W:World} {k g:Nat} (L:Laid W) {x:Cd} (hx:x=cRet ∨ x=cBr)
  (h1:Blk W k 62 #[.string ⟨#[102]⟩,.int .i64 0,.int .i64 0,.int .i64 0,.int .i64 0,.string ⟨#[]⟩,.bool false,.bool false,.slice (some ⟨g,0,none⟩) 2 2]) (h2:Blk W g 93 (oneCells x.op)) :
  Calls Tryz.prog 57 #[.slice (some ⟨k,0,none⟩) 1 1] W fun e w'=>e=.returned (.tuple #[.int .i64 (checkE [fOne (some ⟨g,0,none⟩) x]).1,.int .i64 (checkE [fOne (some ⟨g,0,none⟩) x]).2.1,.int .i64 (checkE [fOne (some ⟨g,0,none⟩) x]).2.2])∧Ext W w' :=
 cCheck_any (some ⟨k,0,none⟩) 1 [fOne (some ⟨g,0,none⟩) x] W L (fcAt_one hx h1 h2) (show (1:Nat) ≤ _ by decide) (fun _=>by simp [countS,fOne]) (fun f hf=>by rw [List.mem_singleton] at hf; subst hf; show (2:Nat) ≤ _; decide)
theorem check_one_ret {W:World} {k g:Nat} (L:Laid W)
  (h1:Blk W k 62 #[.string ⟨#[102]⟩,.int .i64 0,.int .i64 0,.int .i64 0,.int .i64 0,.string ⟨#[]⟩,.bool false,.bool false,.slice (some ⟨g,0,none⟩) 2 2]) (h2:Blk W g 93 (oneCells 17)) :
  Calls Tryz.prog 57 #[.slice (some ⟨k,0,none⟩) 1 1] W fun e w'=>e=.returned (.tuple #[.int .i64 0,.int .i64 0,.int .i64 0])∧Ext W w':=by
 have h:=check_one L (x:=cRet) (.inl rfl) h1 h2
 rw [check_ret] at h
 exact h
theorem check_one_br {W:World} {k g:Nat} (L:Laid W)
  (h1:Blk W k 62 #[.string ⟨#[102]⟩,.int .i64 0,.int .i64 0,.int .i64 0,.int .i64 0,.string ⟨#[]⟩,.bool false,.bool false,.slice (some ⟨g,0,none⟩) 2 2]) (h2:Blk W g 93 (oneCells 15)) :
  Calls Tryz.prog 57 #[.slice (some ⟨k,0,none⟩) 1 1] W fun e w'=>e=.returned (.tuple #[.int .i64 0,.int .i64 1,.int .i64 7])∧Ext W w':=by
 have h:=check_one L (x:=cBr) (.inr rfl) h1 h2
 rw [check_br] at h
 exact h
theorem wpList_store_part {w:World} {ops:Array Oper} {rest:List Oper} {o:Oper} {a:Act} {Q:Exit → Act → World → Prop} (hgd:o.guard=none) (ty:TypeId) (x y:Operand) (ho:o.op=.store ty x y)
  (g off:Nat) (hx:a.eval x=.pointer (some ⟨g,off,none⟩)) (t:TypeId) (cur cs cur2:Array Value) (hg:Blk w g t cur) (hy:a.eval y=.agg cs) (hs:off + cs.size ≤ cur.size) (h2:(cur.toList.take off ++ cs.toList ++ cur.toList.drop (off + cs.size)).toArray=cur2)
  (h1:∀ v ∈ cs.toList,v.oneCell'=true) (hi:(Tryz.prog.info? ty).map (·.size)=some cs.size) (h:wpList Tryz.prog ops Q rest (a.put o.dst undef) (w.setRow g cur2)):wpList Tryz.prog ops Q (o :: rest) a w:=by
 refine wpList_plain hgd fun K hK=>?_
 have hst:=run_storeCells_at Tryz.prog g off t cs.toList 0 cur w hg (by simpa using hs) h1
 simp only [Nat.add_zero,Array.length_toList] at hst
 rw [h2] at hst
 cases hq:Tryz.prog.info? ty with
 | none=>simp [hq] at hi
 | some i =>
  have hz:i.size=cs.size:=by simpa [hq] using hi
  unfold Oper.wp execOp
  simp only [ho,hx,hy]
  have:(Instr.storeAt ty (.pointer (some ⟨g,off,none⟩)) (.agg cs)).run Tryz.prog w=.ok () (w.setRow g cur2):=by
   simp [Instr.storeAt,Instr.sureAddr,storeVar,Value.cells,sizeOf,typeInfo,hq,hz,hst]
  simp [this]
  exact hK _ _ h
def brCells:Array Value:=#[.int .i64 15,.int .i64 0,.int .i64 0,.int .i64 0,.int .i64 0,.string ⟨#[]⟩,.bool false,.bool false,.string ⟨#[]⟩]
theorem br_one:∀ v ∈ brCells.toList,v.oneCell'=true:=by
 intro v hv
 unfold brCells at hv
 simp at hv
 rcases hv with rfl | rfl | rfl | rfl | rfl | rfl | rfl | rfl | rfl <;> rfl
theorem br_set:((oneCells 17).toList.take 9 ++ brCells.toList ++ (oneCells 17).toList.drop (9 + brCells.size)).toArray=oneCells 15:=rfl
theorem known_any (w:World) (L:Laid w) :
  Calls Tryz.prog 13 #[] w fun e w'=>e=.returned (.bool true)∧Ext w w':=by
 have HZ:Hid ((Tryz.prog.info? 93).map (·.size)=some 9):=by unfold Hid; kernel_rfl
 go_enter Tryz.func13,Tryz.ntmps13
 go_wp2_with (first
  | (go_at_call 58
     refine (one_any _).mono ?_
     rintro r w1 ⟨g1,hg1,rfl,x1,b1⟩
     have B1:=Lib.hid b1
     have X1:=Lib.hid x1
     have lt1:=b1.lt
     clear b1 x1)
  | (go_at_call 57
     have tk:=X3.out
     have tk2:=X0.out
     refine (check_one_br (L.ext exA) (Blk.new _ _ _) (B3.out.alloc _)).mono ?_
     rintro r w4 ⟨rfl,x4⟩)
  | (go_at_call 57
     have tk:=X1.out
     refine (check_one_ret (L.ext exA) (Blk.new _ _ _) (B1.out.alloc _)).mono ?_
     rintro r w2 ⟨rfl,x2⟩
     have X0:Hid (Ext w w2):=by unfold Hid; exact exA
     clear x2 X1 B1)
  | (refine wpList_store_part rfl 93 _ _ rfl g1 9 rfl 93 (oneCells 17) brCells (oneCells 15) (B1.out.alloc _) rfl (by decide) br_set br_one HZ.out ?_
     have X3:Hid (Ext w2 ((w1.alloc (.cells #[.string ⟨#[102]⟩,.int .i64 0,.int .i64 0,.int .i64 0,.int .i64 0,.string ⟨#[]⟩,.bool false,.bool false,.slice (some ⟨g1,0,none⟩) 2 2] 62)).setRow g1 (oneCells 15))):=(X1.out.alloc _).setRow hg1 _
     have B3:Hid (Blk ((w1.alloc (.cells #[.string ⟨#[102]⟩,.int .i64 0,.int .i64 0,.int .i64 0,.int .i64 0,.string ⟨#[]⟩,.bool false,.bool false,.slice (some ⟨g1,0,none⟩) 2 2] 62)).setRow g1 (oneCells 15)) g1 93 (oneCells 15)):=(B1.out.alloc _).row _
     have C3:Hid (Blk ((w1.alloc (.cells #[.string ⟨#[102]⟩,.int .i64 0,.int .i64 0,.int .i64 0,.int .i64 0,.string ⟨#[]⟩,.bool false,.bool false,.slice (some ⟨g1,0,none⟩) 2 2] 62)).setRow g1 (oneCells 15)) w1.heap.size 62 #[.string ⟨#[102]⟩,.int .i64 0,.int .i64 0,.int .i64 0,.int .i64 0,.string ⟨#[]⟩,.bool false,.bool false,.slice (some ⟨g1,0,none⟩) 2 2]):=(setRow_other _ g1 w1.heap.size _ (by omega)).trans (Blk.new w1 _ _)
     generalize (w1.alloc (.cells #[.string ⟨#[102]⟩,.int .i64 0,.int .i64 0,.int .i64 0,.int .i64 0,.string ⟨#[]⟩,.bool false,.bool false,.slice (some ⟨g1,0,none⟩) 2 2] 62)).setRow g1 (oneCells 15)=w3 at X3 B3 C3 ⊢
     have c0:=C3.out.cell 0
     have c1:=C3.out.cell 1
     have c2:=C3.out.cell 2
     have c3:=C3.out.cell 3
     have c4:=C3.out.cell 4
     have c5:=C3.out.cell 5
     have c6:=C3.out.cell 6
     have c7:=C3.out.cell 7
     have c8:=C3.out.cell 8
     simp only [List.getElem?_toArray,List.getElem?_cons_zero,List.getElem?_cons_succ] at c0 c1 c2 c3 c4 c5 c6 c7 c8))
 have x0:=X0.out
 have x3:=X3.out
 go_ret
 exact ⟨rfl,exA⟩
end Go.Proofs.YtknaemlnhediaaaGreatDoor.c
