/- Register code in new memory: what slices.Clone of code and of numbers, and regs.copied leave. Conditions: sizes. -/
import Derived.Test.YtknaemlnhediaaaGreatDoorSame
import Derived.Test.YtknaemlnhediaaaGreatDoorFlowC
namespace Go.Proofs.YtknaemlnhediaaaGreatDoor.c
open Go.RowKit
set_option linter.unusedVariables false
set_option maxRecDepth 100000
set_option maxHeartbeats 1600000
set_option linter.unusedSimpArgs false
def numC (z:Int) (_:Nat):Value:=.int .i64 z
theorem recCells_nums (l:List Int):recCells 1 numC l=l.map (Value.int .i64):=by
 induction l with
 | nil=>rfl
 | cons x l ih=>rw [recCells_cons,ih]; rfl
theorem info_reg:(Tryz.prog.info? 67).map (fun i=>(i.zero,i.size,i.bytes))=some (some (.agg #[.int .i64 0,.int .i64 0,.int .i64 0,.int .i64 0,.int .i64 0,.int .i64 0,.string ⟨#[]⟩,.bool false,.bool false,.string ⟨#[]⟩,.slice none 0 0]),11,112):=by kernel_rfl
theorem run_rg_nil (a:Addr) (n cap:Nat) (w:World):(binOp .eql 57 (.slice (some a) n cap) (.slice none 0 0)).run Tryz.prog w=.ok (.bool false) w:=rfl
theorem run_in_nil (a:Addr) (n cap:Nat) (w:World):(binOp .eql 65 (.slice (some a) n cap) (.slice none 0 0)).run Tryz.prog w=.ok (.bool false) w:=rfl
theorem run_in_nil0 (cap:Nat) (w:World):(binOp .eql 65 (.slice none 0 cap) (.slice none 0 0)).run Tryz.prog w=.ok (.bool true) w:=rfl
def NewN (w:World) (base:Nat) (A:Option Addr) (l:List Int):Prop:=l=[] ∨ ∃ g,A=some ⟨g,0,none⟩∧base ≤ g∧RecRow w g 3 1 numC l
theorem NewN.at_ {w:World} {base:Nat} {A:Option Addr} {l:List Int} (h:NewN w base A l):NumsAt w A l:=by
 rcases h with rfl | ⟨g,rfl,_,hr⟩
 ·intro h; exact absurd h (by decide)
 ·exact hr.at_
theorem NewN.ext {w w':World} {base:Nat} {A:Option Addr} {l:List Int} (h:NewN w base A l) (x:Ext w w'):NewN w' base A l:=by
 rcases h with rfl | ⟨g,rfl,hb,hr⟩
 ·exact .inl rfl
 ·exact .inr ⟨g,rfl,hb,hr.ext x⟩
theorem NewN.low {w:World} {base base':Nat} {A:Option Addr} {l:List Int} (h:NewN w base A l) (x:base' ≤ base):NewN w base' A l:=by
 rcases h with rfl | ⟨g,rfl,hb,hr⟩
 ·exact .inl rfl
 ·exact .inr ⟨g,rfl,Nat.le_trans x hb,hr⟩
theorem RecRow.ne {α β:Type} [Inhabited α] [Inhabited β] {w:World} {g h:Nat} {t u:TypeId} {sz sz':Nat} {C:α → Nat → Value} {D:β → Nat → Value} {c:List α} {d:List β} (a:RecRow w g t sz C c) (b:RecRow w h u sz' D d) (hne:t ≠ u):g ≠ h:=by
 intro e
 subst e
 obtain ⟨c1,h1,_⟩:=a
 obtain ⟨c2,h2,_⟩:=b
 unfold Blk at h1 h2
 rw [h1] at h2
 exact hne (Obj.cells.inj (Option.some.inj h2)).2.1
theorem NewN.far {w:World} {base:Nat} {A:Option Addr} {l:List Int} (h:NewN w base A l) {β:Type} [Inhabited β] {g:Nat} {u:TypeId} {sz:Nat} {D:β → Nat → Value} {d:List β} (hr:RecRow w g u sz D d) (hne : 3 ≠ u) (q:Nat) (v:Value):NewN (w.setCell ⟨g,q,none⟩ v) base A l:=by
 rcases h with rfl | ⟨g',rfl,hb,h2⟩
 ·exact .inl rfl
 ·exact .inr ⟨g',rfl,hb,h2.far (h2.ne hr hne) v⟩
theorem cloneI_any (A:Option Addr) (cap:Nat) (l:List Int) {len:Nat} (w:World) (hl:len=l.length) (hA:NumsAt w A l) (hn:len ≤ 100000000) :
  Calls Tryz.prog 183 #[.slice A len cap] w fun e w'=>∃ A' cap',e=.returned (.slice A' len cap')∧NewN w' w.heap.size A' l∧Ext w w':=by
 subst hl
 have HA:=Lib.hid hA
 cases A with
 | none =>
  have hl0:l=[]:=by
   rcases Nat.eq_zero_or_pos l.length with h | h
   ·exact List.length_eq_zero_iff.1 h
   ·obtain ⟨b,o,e,_⟩:=hA h
    cases e
  subst hl0
  have hrn:=run_in_nil0
  clear hA
  go_enter Tryz.func183,Tryz.ntmps183
  go_wp2_with fail
  go_ret
  exact ⟨none,0,rfl,.inl rfl,Ext.refl _⟩
 | some ad =>
  have hrn:=run_in_nil
  have OW:Hid ((w.alloc (.cells #[] 3)).ownsRow w.heap.size 3 1 (.slice (some ⟨w.heap.size,0,none⟩) 0 0) ([]:List Int).length (([]:List Int).map (Value.int .i64))) :=
   ⟨rfl,.inr ⟨w.heap.size,0,#[],rfl,Nat.le_refl _,Blk.new w 3 #[],Nat.le_refl _,by unfold maxLen; omega,rfl,rfl⟩⟩
  clear hA
  go_enter Tryz.func183,Tryz.ntmps183
  go_wp2_with (first
   | (at_builtin
      go_loud (refine wpList_append_nums rfl _ _ rfl w.heap.size _ ([]:List Int) rfl OW.out (some ad) cap l rfl (HA.out.ext ((Ext.refl w).alloc _)) ?h1 ?h2 ?_)))
  case h1=>simp; omega
  case h2=>simp
  ·intro v' w2 ow2 g2
   have OW2:=Lib.hid ow2
   have X2:=Lib.hid (((Ext.refl w).alloc (.cells #[] 3)).grown g2 (own_row OW.out))
   clear ow2 g2
   go_wp2_with fail
   have h1:=OW2.out
   try rw [List.nil_append] at h1
   rw [← recCells_nums] at h1
   rcases Nat.eq_zero_or_pos l.length with h0 | hpos
   ·obtain ⟨A',cap',hv,_⟩:=own_rec_at h1
    subst hv
    go_ret
    exact ⟨A',cap',rfl,.inl (List.length_eq_zero_iff.1 h0),X2.out⟩
   ·obtain ⟨g,cap',hv,hg,hr⟩:=own_rec h1 hpos
    subst hv
    go_ret
    exact ⟨_,cap',rfl,.inr ⟨g,rfl,hg,hr⟩,X2.out⟩
theorem cloneG_any (A:Option Addr) (cap:Nat) (c:List Rg) {len:Nat} (w:World) (hl:len=c.length) (hA:RgAt w A c) (hpos:0 < len) (hn:len ≤ 10000000) :
  Calls Tryz.prog 182 #[.slice A len cap] w fun e w'=>∃ g cap',e=.returned (.slice (some ⟨g,0,none⟩) len cap')∧w.heap.size ≤ g∧RecRow w' g 67 11 rgC c∧Ext w w':=by
 subst hl
 obtain ⟨b,o,rfl,hb,hc⟩:=hA.top hpos
 have HN:=Lib.hid (news_rec (C:=rgC) (c:=c) (w:=w) (b:=b) (o:=o) (sz:=11) (fun i j hi hj=>hc i j hi hj))
 obtain ⟨i0,hi0,hz0,hz1,hz2⟩:=info_parts info_reg
 have HI:=Lib.hid hi0; have HZ0:=Lib.hid hz0; have HZ1:=Lib.hid hz1; have HZ2:=Lib.hid hz2
 clear hi0 hz0 hz1 hz2 hc hA
 obtain ⟨n,hnn⟩:∃ n,n=c.length:=⟨_,rfl⟩
 have HNN:=Lib.hid hnn
 rw [← hnn] at hpos hn ⊢
 clear hnn
 have OW:Hid ((w.alloc (.cells #[] 67)).ownsRow w.heap.size 67 11 (.slice (some ⟨w.heap.size,0,none⟩) 0 0) 0 []) :=
  ⟨rfl,.inr ⟨w.heap.size,0,#[],rfl,Nat.le_refl _,Blk.new w 67 #[],Nat.le_refl _,by unfold maxLen; omega,rfl,rfl⟩⟩
 have hrn:=run_rg_nil
 go_enter Tryz.func182,Tryz.ntmps182
 go_wp2_with (first
  | (at_builtin
     refine wpList_append_own _ rfl _ _ 57 rfl w.heap.size 67 i0 _ 11 112 Tryz.underlying57 HI.out HZ0.out HZ1.out HZ2.out rfl (by decide) _ 0 [] rfl OW.out ⟨b,o,none⟩ n cap (recCells 11 rgC c) rfl ?c1 ?c2 ?c3 ?c4 ?c5 ?c6 ?_))
 case c1=>rw [HNN.out]; exact recCells_len 11 rgC c
 case c2 =>
  intro j u hu
  have h1:=HN.out j u hu
  rw [Addr.add_lit] at h1 ⊢
  rw [← h1]
  exact (((Ext.refl w).alloc _).cell (p:=⟨b,o + j,none⟩) hb)
 case c3=>exact recCells_ones rgC_one c
 case c4=>unfold maxLen; omega
 case c5=>omega
 case c6=>simp
 ·intro v' w2 ow2 g2 _
  have OW2:=Lib.hid ow2
  have X2:=Lib.hid (((Ext.refl w).alloc (.cells #[] 67)).grown g2 (own_row OW.out))
  clear ow2 g2
  go_wp2_with fail
  have h1:=OW2.out
  try rw [Nat.zero_add,List.nil_append] at h1
  rw [HNN.out] at h1
  obtain ⟨g,cap',hv,hg,hr⟩:=own_rec h1 (by rw [← HNN.out]; exact hpos)
  subst hv
  go_ret
  exact ⟨g,cap',by first | rfl | (rw [HNN.out]; rfl),hg,hr,X2.out⟩
theorem info_rfn:(Tryz.prog.info? 59).map (fun i=>(i.zero,i.size,i.bytes))=some (some (.agg #[.string ⟨#[]⟩,.int .i64 0,.int .i64 0,.int .i64 0,.int .i64 0,.string ⟨#[]⟩,.bool false,.bool false,.slice none 0 0]),9,96):=by kernel_rfl
theorem enters_cloneI:Enters 183 := Enters.of Tryz.func183 (by kernel_rfl) (by kernel_rfl)
structure CpSt (w0 w:World) (v:Value) (l M:List Rf):Prop where
 ext:Ext w0 w
 own:w.ownsRow w0.heap.size 59 9 v M.length (recCells 9 rfC M)
 like:∀ j,j < M.length → pureF (M.getD j default)=pureF (l.getD j default)
 rows:∀ j,j < M.length → ∃ g,(M.getD j default).A=some ⟨g,0,none⟩∧w0.heap.size ≤ g∧RecRow w g 67 11 rgC (M.getD j default).code
 ne:∀ i j,i < M.length → j < M.length → i ≠ j → (M.getD i default).A ≠ (M.getD j default).A
 args:∀ f,f ∈ M → ∀ x,x ∈ f.code → NewN w w0.heap.size x.A x.args
section
variable {w0 w w' wr:World} {v v':Value} {l M:List Rf} {f:Rf}
theorem CpSt.ext' (s:CpSt w0 w v l M) (x:Ext w w'):CpSt w0 w' v l M :=
 ⟨s.ext.trans x,own_ext s.own x,s.like,fun j hj=>let ⟨g,h1,h2,h3⟩:=s.rows j hj; ⟨g,h1,h2,h3.ext x⟩,s.ne,fun f hf y hy=>(s.args f hf y hy).ext x⟩
theorem CpSt.start (w0:World) (l:List Rf):CpSt w0 w0 (.slice none 0 0) l []:=⟨Ext.refl _,World.ownsRow_nil _ _ _ _,fun j hj=>(by cases hj),fun j hj=>(by cases hj),fun i j hi=>(by cases hi),fun f hf=>(by cases hf)⟩
theorem own_ne {α:Type} [Inhabited α] {base n sz sz':Nat} {t u:TypeId} {xs:List Value} {C:α → Nat → Value} {c:List α} {g:Nat} (s:w.ownsRow base t sz v n xs) (h:RecRow w g u sz' C c) (hne:u ≠ t):some g ≠ v.ownBlock:=by
 intro e
 rcases s.2 with ⟨rfl,_⟩ | ⟨g',cap,cur,rfl,_,hg,_⟩
 ·cases e
 ·have e2:g=g':=Option.some.inj e
  subst e2
  obtain ⟨cur2,hb,_⟩:=h
  unfold Blk at hb
  rw [hg] at hb
  exact hne (Obj.cells.inj (Option.some.inj hb)).2.1.symm
theorem NewN.grown {base base2 n sz:Nat} {t:TypeId} {xs:List Value} {A:Option Addr} {q:List Int} (s:w.ownsRow base2 t sz v n xs) (h:NewN w base A q) (hne : 3 ≠ t) (gr:w.grownBy w' v.ownBlock):NewN w' base A q:=by
 rcases h with rfl | ⟨g,rfl,hb,hr⟩
 ·exact .inl rfl
 ·exact .inr ⟨g,rfl,hb,hr.grown gr (own_ne s hr hne)⟩
theorem snoc_old {M:List Rf} {f:Rf} {j:Nat} (h:j < M.length):(M ++ [f]).getD j default=M.getD j default:=by
 simp only [List.getD]
 rw [List.getElem?_append_left h]
theorem snoc_new {M:List Rf} {f:Rf}:(M ++ [f]).getD M.length default=f:=by
 simp only [List.getD]
 rw [List.getElem?_append_right (Nat.le_refl _),Nat.sub_self]
 rfl
theorem CpSt.push (s0:CpSt w0 wr v l M) (x:Ext wr w) (gr:w.grownBy w' v.ownBlock) (ow:w'.ownsRow w0.heap.size 59 9 v' (M.length + 1) (recCells 9 rfC M ++ (List.range 9).map (rfC f))) {g:Nat} (hA:f.A=some ⟨g,0,none⟩) (hg:wr.heap.size ≤ g)
  (hr:RecRow w g 67 11 rgC f.code) (ha:∀ y,y ∈ f.code → NewN w w0.heap.size y.A y.args) (hl:pureF f=pureF (l.getD M.length default)):CpSt w0 w' v' l (M ++ [f]):=by
 have s:=s0.ext' x
 have hlen:(M ++ [f]).length=M.length + 1:=by simp
 have hb:∀ j,j < M.length → ∀ q,(M.getD j default).A=some ⟨q,0,none⟩ → q < wr.heap.size:=fun j hj q hq=>by
  obtain ⟨g1,h1,_,h3⟩:=s0.rows j hj
  rw [hq] at h1
  cases h1
  exact h3.lt
 refine ⟨s.ext.grown gr (own_row s.own),by rw [hlen,recCells_append,recCells_one]; exact ow,fun j hj=>?_,fun j hj=>?_,fun i j hi hj hne=>?_,fun f2 h2 y hy=>?_⟩
 ·rcases Nat.lt_or_ge j M.length with h | h
  ·rw [snoc_old h]; exact s.like j h
  ·obtain rfl:j=M.length:=by omega
   rw [snoc_new]; exact hl
 ·rcases Nat.lt_or_ge j M.length with h | h
  ·rw [snoc_old h]
   obtain ⟨g1,h1,h2,h3⟩:=s.rows j h
   exact ⟨g1,h1,h2,h3.grown gr (own_ne s.own h3 (by decide))⟩
  ·obtain rfl:j=M.length:=by omega
   rw [snoc_new]
   exact ⟨g,hA,Nat.le_trans s0.ext.size hg,hr.grown gr (own_ne s.own hr (by decide))⟩
 ·rcases Nat.lt_or_ge i M.length with h | h
  ·rcases Nat.lt_or_ge j M.length with h' | h'
   ·rw [snoc_old h,snoc_old h']; exact s.ne i j h h' hne
   ·obtain rfl:j=M.length:=by omega
    rw [snoc_old h,snoc_new,hA]
    intro e
    have:=hb i h g e
    omega
  ·obtain rfl:i=M.length:=by omega
   have h':j < M.length:=by omega
   rw [snoc_new,snoc_old h',hA]
   intro e
   have:=hb j h' g e.symm
   omega
 ·rcases List.mem_append.1 h2 with h2 | h2
  ·exact (s.args f2 h2 y hy).grown s.own (by decide) gr
  ·rw [List.mem_singleton] at h2
   subst h2
   exact (ha y hy).grown s.own (by decide) gr
end
theorem CQ_len_row {f:Rf} {g cap2:Nat} {C:List Rg} (h:C.length=f.code.length):[.string f.name,.int .i64 f.params,.int .i64 f.regs,.int .i64 f.ty.base,.int .i64 f.ty.bits,.string f.ty.name,.bool f.ty.opt,.bool f.ty.err,.slice (some ⟨g,0,none⟩) f.code.length cap2]=(List.range 9).map (rfC ({ f with A:=some ⟨g,0,none⟩,cap:=cap2,code:=C }:Rf)):=by
 rw [← h]
 rfl
structure CqSt (wr w:World) (base zf g nc:Nat) (C0 C:List Rg) (q:Nat) (cur:Array Value):Prop where
 ext:Ext wr w
 blk:Blk w zf 59 cur
 row:RecRow w g 67 11 rgC C
 len:C.length=nc
 like:C.map pureX=C0.map pureX
 rest:∀ j,q ≤ j → C.getD j default=C0.getD j default
 args:∀ j,j < q → NewN w base (C.getD j default).A (C.getD j default).args
theorem CqSt.ext' {wr w w':World} {base zf g nc q:Nat} {C0 C:List Rg} {cur:Array Value} (s:CqSt wr w base zf g nc C0 C q cur) (x:Ext w w'):CqSt wr w' base zf g nc C0 C q cur :=
 ⟨s.ext.trans x,s.blk.ext x,s.row.ext x,s.len,s.like,s.rest,fun j hj=>(s.args j hj).ext x⟩
theorem CqSt.next {wr w:World} {base zf g nc q:Nat} {C0 C:List Rg} {cur:Array Value} (s:CqSt wr w base zf g nc C0 C q cur) (hq:q < nc) (hg:wr.heap.size ≤ g) (hz:zf ≠ g) {A':Option Addr} {cap':Nat} (hn:NewN w base A' (C0.getD q default).args) :
  CqSt wr (w.setCell ⟨g,q * 11 + 10,none⟩ (.slice A' (C0.getD q default).args.length cap')) base zf g nc C0 (C.set q { C0.getD q default with A:=A',cap:=cap' }) (q + 1) cur:=by
 have hql:q < C.length:=by rw [s.len]; exact hq
 have hqr:=s.rest q (Nat.le_refl _)
 refine ⟨s.ext.setCell hg _,s.blk.far (Ne.symm (Ne.symm hz)) _,s.row.set_ hql (by decide) (fun j hj=>?_),by simpa using s.len,?_,fun j hj=>?_,fun j hj=>?_⟩
 ·rw [hqr]
  match j,hj with
  | 0,_ | 1,_ | 2,_ | 3,_ | 4,_ | 5,_ | 6,_ | 7,_ | 8,_ | 9,_ | 10,_=>rfl
 ·rw [← s.like,List.map_set]
  have e:pureX { C0.getD q default with A:=A',cap:=cap' }=pureX (C.getD q default):=by rw [hqr]; rfl
  rw [e]
  have e2:pureX (C.getD q default)=(C.map pureX)[q]'(by simpa using hql):=by rw [List.getElem_map,List.getD,List.getElem?_eq_getElem hql]; rfl
  rw [e2,List.set_getElem_self]
 ·rw [← s.rest j (by omega)]
  simp only [List.getD,List.getElem?_set_ne (show q ≠ j by omega)]
 ·rcases Nat.lt_or_ge j q with h | h
  ·have e:(C.set q { C0.getD q default with A:=A',cap:=cap' }).getD j default=C.getD j default:=by simp only [List.getD,List.getElem?_set_ne (show q ≠ j by omega)]
   rw [e]
   exact (s.args j h).far s.row (by decide) _ _
  ·obtain rfl:j=q:=by omega
   have e:(C.set j { C0.getD j default with A:=A',cap:=cap' }).getD j default={ C0.getD j default with A:=A',cap:=cap' }:=by simp [List.getD,hql]
   rw [e]
   exact hn.far s.row (by decide) _ _
theorem copied_any (A:Option Addr) (cap:Nat) (l:List Rf) {len:Nat} (w:World) (hlen:len=l.length) (hA:RfAt w A l) (hl:len ≤ 1000) (hpos:∀ f,f ∈ l → 1 ≤ f.code.length∧f.code.length ≤ 10000) (hargs:∀ f,f ∈ l → ∀ x,x ∈ f.code → x.args.length ≤ 1000) :
  Calls Tryz.prog 113 #[.slice A len cap] w fun e w'=>∃ v M,e=.returned v∧M.length=l.length∧CpSt w w' v l M:=by
 have HA:=Lib.hid hA
 have HLn:=Lib.hid hlen
 have HPS:=Lib.hid hpos
 have HAR:=Lib.hid hargs
 clear hA hlen hpos hargs
 have HZ:Hid ((Tryz.prog.info? 67).map (·.size)=some 11):=by unfold Hid; kernel_rfl
 have HZF:Hid ((Tryz.prog.info? 59).map (·.size)=some 9):=by unfold Hid; kernel_rfl
 obtain ⟨i0,hi0,hz0,hz1,hz2⟩:=info_parts info_rfn
 have HI:=Lib.hid hi0; have HZ0:=Lib.hid hz0; have HZ1:=Lib.hid hz1; have HZ2:=Lib.hid hz2
 clear hi0 hz0 hz1 hz2
 go_enter Tryz.func113,Tryz.ntmps113
 go_wp2_with fail
 go_loopw [3,10] (fun v i wr=>∃ k:Nat,k ≤ len∧i=.int .i64 k∧∃ M:List Rf,M.length=k∧CpSt w wr v l M) (fun _ i _=>len - (intOf i).toNat)
 case atStart=>exact ⟨0,Nat.zero_le _,rfl,[],rfl,CpSt.start w l⟩
 case round =>
  obtain ⟨k,hk,rfl,M,hM,st⟩:=hrel
  rename World=>wo
  have ST:=Lib.hid st
  clear st
  by_cases hlt:k < len
  ·have hkl:k < l.length:=by have:=HLn.out; omega
   obtain ⟨f,hf⟩:∃ f,f=l.getD k default:=⟨_,rfl⟩
   have hfm:f ∈ l:=by rw [hf]; exact getD_mem hkl
   have HPF:=Lib.hid (HPS.out f hfm)
   have HAF:=Lib.hid (HAR.out f hfm)
   obtain ⟨b,off,rfl,hb,c0,c1,c2,c3,c4,c5,c6,c7,c8,hcd⟩:=(HA.out.ext ST.out.ext).at_ (k:=k) hkl hf
   have HCD:=Lib.hid hcd
   have HF:=Lib.hid hf
   have hnc1:1 ≤ f.code.length∧f.code.length ≤ 10000:=HPF.out
   clear hcd hf hfm hkl
   go_wp2_with (first
    | ((with_reducible show wpList _ _ _ (Oper.mk none (.store 59 (.tmp 5) (.tmp 13)) _ _ _ _ :: _) _ _)
       refine store_new 59 _ _ rfl _ _ rfl rfl rfl rfl HZF.out (rf_one f) ?_
       intro w3 x3 B3
       have X3:=Lib.hid x3
       have BB3:=Lib.hid B3
       obtain ⟨e0,e1,e2,e3,e4,e5,e6,e7,e8⟩:=rf_cells f B3
       have z3:=B3.lt
       clear B3 x3 e0 e1 e2 e3 e4 e5 e6 e7 c0 c1 c2 c3 c4 c5 c6 c7 c8)
    | (go_at_call 182
       refine (cloneG_any f.A f.cap f.code _ rfl (HCD.out.ext X3.out) HPF.out.1 (by have:=HPF.out.2; omega)).mono ?_
       rintro r w4 ⟨g,cap2,rfl,hg,hr,x4⟩
       have BB4:=Lib.hid (BB3.out.ext x4)
       have HG:=Lib.hid hg
       have HR:=Lib.hid hr
       have X4:=Lib.hid x4
       have d8:=BB4.out.cell 8
       have fz8:=BB4.out.frozen 8
       have z4:=BB4.out.lt
       simp only [List.getElem?_toArray,List.getElem?_cons_zero,List.getElem?_cons_succ] at d8
       clear hg hr x4 e8 z3))
   go_wp2_with fail
   have Y0:Hid (CqSt wo (w4.setCell ⟨wo.heap.size,8,none⟩ (.slice (some ⟨g,0,none⟩) f.code.length cap2)) w.heap.size wo.heap.size g f.code.length f.code f.code 0 #[.string f.name,.int .i64 f.params,.int .i64 f.regs,.int .i64 f.ty.base,.int .i64 f.ty.bits,.string f.ty.name,.bool f.ty.opt,.bool f.ty.err,.slice (some ⟨g,0,none⟩) f.code.length cap2]):=by
    have hz3:wo.heap.size < w3.heap.size:=BB3.out.lt
    have hgz:=HG.out
    refine ⟨(X3.out.trans X4.out).setCell (Nat.le_refl _) _,?_,HR.out.far (by show g ≠ wo.heap.size; omega) _,rfl,rfl,fun j _=>rfl,fun j hj=>by omega⟩
    have h9:=BB4.out.set_ 8 (.slice (some ⟨g,0,none⟩) f.code.length cap2)
    exact h9
   have hgw:Hid (wo.heap.size < g):=by
    have hz3:wo.heap.size < w3.heap.size:=BB3.out.lt
    have hgz:=HG.out
    show _ < _
    omega
   go_loopw [21] (fun i wq=>∃ q:Nat,q ≤ f.code.length∧i=.int .i64 q∧∃ C:List Rg,CqSt wo wq w.heap.size wo.heap.size g f.code.length f.code C q #[.string f.name,.int .i64 f.params,.int .i64 f.regs,.int .i64 f.ty.base,.int .i64 f.ty.bits,.string f.ty.name,.bool f.ty.opt,.bool f.ty.err,.slice (some ⟨g,0,none⟩) f.code.length cap2]) (fun i _=>f.code.length - (intOf i).toNat)
   case atStart=>exact ⟨0,Nat.zero_le _,rfl,f.code,Y0.out⟩
   case round =>
    clear Y0
    obtain ⟨q,hq,rfl,C,cq⟩:=hrel
    have CQ:=Lib.hid cq
    clear cq
    by_cases hqt:q < f.code.length
    ·obtain ⟨x,hx⟩:∃ x,x=f.code.getD q default:=⟨_,rfl⟩
     have hcx:C.getD q default=x:=by rw [CQ.out.rest q (Nat.le_refl _),hx]
     obtain ⟨b2,o2,he2,zg,r0,r1,r2,r3,r4,r5,r6,r7,r8,r9,r10⟩:=(CQ.out.row.at_).eleven (k:=q) (by rw [CQ.out.len]; exact hqt)
     cases he2
     simp only [Nat.zero_add,hcx] at r0 r1 r2 r3 r4 r5 r6 r7 r8 r9 r10
     have e0:(Value.int .i64 x.op)=rgC x 0:=rfl
     simp only [rgC] at r0 r1 r2 r3 r4 r5 r6 r7 r8 r9 r10
     have d8:=CQ.out.blk.cell 8
     have zf:=CQ.out.blk.lt
     simp only [List.getElem?_toArray,List.getElem?_cons_zero,List.getElem?_cons_succ] at d8
     have hxm:x ∈ f.code:=by rw [hx]; exact getD_mem hqt
     have HXA:Hid (x.args.length ≤ 1000):=HAF.out x hxm
     have HNX:Hid (∀ w',Ext wo w' → NumsAt w' x.A x.args):=fun w' xx=>(HCD.out.sub x hxm).ext xx
     have HXX:=Lib.hid hx
     clear hx hcx hxm e0
     go_wp2_with (first
      | ((with_reducible show wpList _ _ _ (Oper.mk none (.store 67 (.tmp 7) (.tmp 25)) _ _ _ _ :: _) _ _)
         refine store_new 67 _ _ rfl _ _ rfl rfl rfl rfl HZ.out (rg_one x) ?_
         intro w5 x5 B5
         have X5:=Lib.hid x5
         have BB5:=Lib.hid B5
         clear B5 x5 r0 r1 r2 r3 r4 r5 r6 r7 r8 r9 r10 d8))
     go_wp2_with fail
     have hgz:=hgw.out
     have HP:Hid (∀ w',Ext w5 w' → w'.cell? ⟨wo.heap.size,8,none⟩=some (.slice (some ⟨g,0,none⟩) f.code.length cap2)∧w'.cell? ⟨wr.heap.size,10,none⟩=some (.slice x.A x.args.length x.cap)∧wo.heap.size < w'.heap.size∧wr.heap.size < w'.heap.size∧g < w'.heap.size):=by
      intro w' xx
      have h1:=(CQ.out.ext' (X5.out.trans xx)).blk
      have h2:=(CQ.out.ext' (X5.out.trans xx)).row
      exact ⟨h1.cell 8,(BB5.out.ext xx).cell 10,h1.lt,(BB5.out.ext xx).lt,h2.lt⟩
     obtain ⟨P,hP⟩:∃ P:World → Prop,P=fun w'=>w'.cell? ⟨wo.heap.size,8,none⟩=some (.slice (some ⟨g,0,none⟩) f.code.length cap2)∧w'.cell? ⟨wr.heap.size,10,none⟩=some (.slice x.A x.args.length x.cap)∧wo.heap.size < w'.heap.size∧wr.heap.size < w'.heap.size∧g < w'.heap.size:=⟨_,rfl⟩
     obtain ⟨R1,hR1⟩:∃ R:World → Prop,R=fun w'=>Ext w5 w':=⟨_,rfl⟩
     obtain ⟨R2,hR2⟩:∃ R:Value → World → Prop,R=fun v w'=>Ext w5 w'∧∃ A' c',v=.slice A' x.args.length c'∧NewN w' w.heap.size A' x.args:=⟨_,rfl⟩
     obtain ⟨R3,hR3⟩:∃ R:World → Prop,R=fun w'=>∃ C',CqSt wo w' w.heap.size wo.heap.size g f.code.length f.code C' (q + 1) #[.string f.name,.int .i64 f.params,.int .i64 f.regs,.int .i64 f.ty.base,.int .i64 f.ty.bits,.string f.ty.name,.bool f.ty.opt,.bool f.ty.err,.slice (some ⟨g,0,none⟩) f.code.length cap2]:=⟨_,rfl⟩
     have HPP:Hid (∀ w',Ext w5 w' → P w'):=fun w' xx=>by rw [hP]; exact HP.out w' xx
     have HPI:Hid (∀ w',(w'.cell? ⟨wo.heap.size,8,none⟩=some (.slice (some ⟨g,0,none⟩) f.code.length cap2)∧w'.cell? ⟨wr.heap.size,10,none⟩=some (.slice x.A x.args.length x.cap)∧wo.heap.size < w'.heap.size∧wr.heap.size < w'.heap.size∧g < w'.heap.size) → P w'):=fun w' h=>by rw [hP]; exact h
     have HD:Hid (∀ (l':Array Bool) (b':Act) (w':World),F1 P 5 8 31 R1 R3 R2 l' b' w' → w'.cell? ⟨wo.heap.size,8,none⟩=some (.slice (some ⟨g,0,none⟩) f.code.length cap2)∧w'.cell? ⟨wr.heap.size,10,none⟩=some (.slice x.A x.args.length x.cap)∧wo.heap.size < w'.heap.size∧wr.heap.size < w'.heap.size∧g < w'.heap.size):=fun l' b' w' h=>by
      have h1:=h.1
      rw [hP] at h1
      exact h1
     have HST:∀ (i k:Nat) (v:Value) (_:i ≠ 5:=by decide) (_:i ≠ 8:=by decide) (_:k ≠ 31:=by decide) (l':Array Bool) (b':Act) (w':World),F1 P 5 8 31 R1 R3 R2 (l'.setIfInBounds i true) (b'.put (some k) v) w' ↔ F1 P 5 8 31 R1 R3 R2 l' b' w':=fun i k v h1 h2 h3 l' b' w'=>F1.same h1 h2 h3 v l' b' w'
     have HM1:Hid (∀ w',R1 w' ↔ Ext w5 w'):=fun w'=>by rw [hR1]
     have HM2:Hid (∀ v w',R2 v w' ↔ (Ext w5 w'∧∃ A' c',v=.slice A' x.args.length c'∧NewN w' w.heap.size A' x.args)):=fun v w'=>by rw [hR2]
     have HM3:Hid (∀ w',R3 w' ↔ ∃ C',CqSt wo w' w.heap.size wo.heap.size g f.code.length f.code C' (q + 1) #[.string f.name,.int .i64 f.params,.int .i64 f.regs,.int .i64 f.ty.base,.int .i64 f.ty.bits,.string f.ty.name,.bool f.ty.opt,.bool f.ty.err,.slice (some ⟨g,0,none⟩) f.code.length cap2]):=fun w'=>by rw [hR3]
     clear hP hR1 hR2 hR3
     refine flow2_begin (F1 P 5 8 31 R1 R3 R2) #[false,false,false,false,false,false,false,false,false] rfl (by kernel_rfl) (fun _ _ _ _ _ h=>h) ((F1.mk1 (by rfl) (by rfl) (HPP.out _ (Ext.refl _).drew) ((HM1.out _).2 (Ext.refl _).drew))) (fun HQ=>?_)
     (refine flow2_take (i:=0) (t:=26) (oi:=⟨some 26,_,_,_,_,_⟩) (v:=?_) rfl rfl (by kernel_rfl) (by kernel_rfl) (by kernel_rfl) HQ (HST 0 26 _) (Or.inl ⟨by rfl,fun l b' w' hF=>?_⟩) ?_; rotate_left; (focus (go_simp; try with_reducible rfl)); try simp only [putL,List.set])
     (refine flow2_take (i:=1) (t:=27) (oi:=⟨some 27,_,_,_,_,_⟩) (v:=?_) rfl rfl (by kernel_rfl) (by kernel_rfl) (by kernel_rfl) HQ (HST 1 27 _) (Or.inl ⟨by rfl,fun l b' w' hF=>?_⟩) ?_; rotate_left; (focus (have hq:=HD.out _ _ _ hF; go_simp; try with_reducible rfl)); try simp only [putL,List.set])
     (refine flow2_take (i:=2) (t:=28) (oi:=⟨some 28,_,_,_,_,_⟩) (v:=?_) rfl rfl (by kernel_rfl) (by kernel_rfl) (by kernel_rfl) HQ (HST 2 28 _) (Or.inl ⟨by rfl,fun l b' w' hF=>?_⟩) ?_; rotate_left; (focus (go_simp; try with_reducible rfl)); try simp only [putL,List.set])
     (refine flow2_take (i:=3) (t:=29) (oi:=⟨some 29,_,_,_,_,_⟩) (v:=?_) rfl rfl (by kernel_rfl) (by kernel_rfl) (by kernel_rfl) HQ (HST 3 29 _) (Or.inl ⟨by rfl,fun l b' w' hF=>?_⟩) ?_; rotate_left; (focus (go_simp; try with_reducible rfl)); try simp only [putL,List.set])
     (refine flow2_take (i:=4) (t:=30) (oi:=⟨some 30,_,_,_,_,_⟩) (v:=?_) rfl rfl (by kernel_rfl) (by kernel_rfl) (by kernel_rfl) HQ (HST 4 30 _) (Or.inl ⟨by rfl,fun l b' w' hF=>?_⟩) ?_; rotate_left; (focus (have hq:=HD.out _ _ _ hF; go_simp; try with_reducible rfl)); try simp only [putL,List.set])
     refine flow2_one (i:=5) (by kernel_rfl) (step_callV (oi:=⟨some 31,_,_,_,_,_⟩) rfl rfl (by rfl) 183 #[.slice x.A x.args.length x.cap] (fun w' hF=>?_) (fun w' hF=>?_) (fun v=>?_))
     ·have hq:=HD.out _ _ _ hF
      go_simp
      try simp only [enters_cloneI _ _]
     ·obtain ⟨_,h1⟩:=hF.get1 (by rfl) (by rfl)
      have xx:=(HM1.out _).1 h1
      refine (cloneI_any x.A x.cap x.args w' rfl (HNX.out w' (CQ.out.ext.trans (X5.out.trans xx))) (by have:=HXA.out; omega)).mono ?_
      rintro e w'' ⟨A',c',rfl,hn,x2⟩
      refine ⟨_,rfl,F1.mk2 (v:=.slice A' x.args.length c') (by rfl) (by rfl) (put_get (n:=41) _ _ (by decide) rfl) (HPP.out _ (xx.trans x2)) ((HM2.out _ _).2 ⟨xx.trans x2,A',c',rfl,hn.low ?_⟩)⟩
      exact Nat.le_trans ST.out.ext.size (CQ.out.ext.trans (X5.out.trans xx)).size
     ·try simp only [Act.put,List.setIfInBounds_toArray,List.set_cons_zero,List.set_cons_succ]
      (refine flow2_take (i:=6) (t:=32) (oi:=⟨some 32,_,_,_,_,_⟩) (v:=?_) rfl rfl (by kernel_rfl) (by kernel_rfl) (by kernel_rfl) HQ (HST 6 32 _) (Or.inl ⟨by rfl,fun l b' w' hF=>?_⟩) ?_; rotate_left; (focus (go_simp; try with_reducible rfl)); try simp only [putL,List.set])
      (refine flow2_take (i:=7) (t:=33) (oi:=⟨some 33,_,_,_,_,_⟩) (v:=?_) rfl rfl (by kernel_rfl) (by kernel_rfl) (by kernel_rfl) HQ (HST 7 33 _) (Or.inl ⟨by rfl,fun l b' w' hF=>?_⟩) ?_; rotate_left; (focus (go_simp; try with_reducible rfl)); try simp only [putL,List.set])
      refine flow2_one (i:=8) (by kernel_rfl) (step_putV (oi:=⟨none,_,_,_,_,_⟩) rfl rfl (by rfl) (fun w' hF=>?_) ?_)
      ·obtain ⟨_,h1⟩:=hF.get2 (v:=v) (by rfl) (by rfl) (by rfl)
       obtain ⟨xx,A',c',rfl,hn⟩:=(HM2.out _ _).1 h1
       have cs:=CQ.out.ext' (X5.out.trans xx)
       have r10:=cs.row.cell (k:=q) (j:=10) (by rw [cs.len]; exact hqt) (by decide)
       have f10:=cs.row.frozen (q * 11 + 10)
       have zg:=cs.row.lt
       have h9:=cs.next (A':=A') (cap':=c') hqt (by omega) (by omega) (by rw [← HXX.out]; exact hn)
       rw [← HXX.out] at h9
       refine ⟨_,w'.setCell ⟨g,q * 11 + 10,none⟩ (.slice A' x.args.length c'),?_,.inr rfl,F1.mk3 (by rfl) ?_ ((HM3.out _).2 ⟨_,h9⟩)⟩
       ·have hq:=HD.out _ _ _ hF
        go_simp
       ·have h7:=(BB5.out.ext xx).far (p:=⟨g,q * 11 + 10,none⟩) (show wr.heap.size ≠ g by have:=CQ.out.row.lt; omega) (.slice A' x.args.length c')
        exact HPI.out _ ⟨h9.blk.cell 8,h7.cell 10,h9.blk.lt,h7.lt,h9.row.lt⟩
      ·refine flow2_done (by kernel_rfl) (fun w' hF=>?_)
       obtain ⟨_,h1⟩:=hF.get3 (by rfl)
       obtain ⟨C',cq'⟩:=(HM3.out _).1 h1
       have CQ':=Lib.hid cq'
       clear cq' h1 hF
       go_wp2_with fail
       case roundEnd=>exact ⟨⟨q + 1,by omega,by go_num,C',CQ'.out⟩,by simp [intOf]; omega⟩
    ·obtain rfl:q=f.code.length:=by omega
     have e0:=CQ.out.blk.cell 0
     have e1:=CQ.out.blk.cell 1
     have e2:=CQ.out.blk.cell 2
     have e3:=CQ.out.blk.cell 3
     have e4:=CQ.out.blk.cell 4
     have e5:=CQ.out.blk.cell 5
     have e6:=CQ.out.blk.cell 6
     have e7:=CQ.out.blk.cell 7
     have e8:=CQ.out.blk.cell 8
     have zf:=CQ.out.blk.lt
     simp only [List.getElem?_toArray,List.getElem?_cons_zero,List.getElem?_cons_succ] at e0 e1 e2 e3 e4 e5 e6 e7 e8
     go_wp2_with (first
      | (at_builtin
         refine wpList_append_own _ rfl _ _ 29 rfl w.heap.size 59 i0 _ 9 96 Tryz.underlying29 HI.out HZ0.out HZ1.out HZ2.out rfl (by decide) _ _ _ rfl (own_ext ((ST.out.ext' CQ.out.ext).own) ((Ext.refl wr).alloc (.cells #[.string f.name,.int .i64 f.params,.int .i64 f.regs,.int .i64 f.ty.base,.int .i64 f.ty.bits,.string f.ty.name,.bool f.ty.opt,.bool f.ty.err,.slice (some ⟨g,0,none⟩) f.code.length cap2] 59))) ⟨wr.heap.size,0,none⟩ 1 1 [.string f.name,.int .i64 f.params,.int .i64 f.regs,.int .i64 f.ty.base,.int .i64 f.ty.bits,.string f.ty.name,.bool f.ty.opt,.bool f.ty.err,.slice (some ⟨g,0,none⟩) f.code.length cap2] rfl rfl ?c1 ?c2 ?c3 ?c4 ?c5 ?_))
     case c1 =>
      intro j2 u hj2
      rw [Addr.add_lit,Nat.zero_add]
      rw [(Blk.new wr 59 _).cell]
      simpa using hj2
     case c2=>intro v hv; simp at hv; rcases hv with rfl | rfl | rfl | rfl | rfl | rfl | rfl | rfl | rfl <;> rfl
     case c3=>unfold maxLen; omega
     case c4=>omega
     case c5=>have:=ST.out.ext.size; have:=CQ.out.ext.size; simp; omega
     intro v' w7 ow7 g7 _
     have ST7:Hid (CpSt w w7 v' l (M ++ [({ f with A:=some ⟨g,0,none⟩,cap:=cap2,code:=C }:Rf)])):=by
      refine ST.out.push (CQ.out.ext.alloc _) g7 ?_ (g:=g) rfl ?_ ?_ ?_ ?_
      ·rw [CQ_len_row CQ.out.len,← hM] at ow7; exact ow7
      ·have:=hgw.out; omega
      ·exact CQ.out.row.ext ((Ext.refl _).alloc _)
      ·intro y hy
       obtain ⟨j,hj,rfl⟩:=List.getElem_of_mem hy
       have hj':j < C.length:=hj
       have h9:=CQ.out.args j (by have:=CQ.out.len; omega)
       rw [List.getD,List.getElem?_eq_getElem hj] at h9
       exact h9.ext ((Ext.refl _).alloc _)
      ·rw [hM,← HF.out]
       show ({ f with A:=none,cap:=0,code:=C.map pureX }:Rf)=pureF f
       rw [CQ.out.like]
       rfl
     clear ow7 g7
     go_wp2_with fail
     case roundEnd=>exact ⟨⟨k + 1,by omega,by go_num,_,by simp [hM],ST7.out⟩,by simp [intOf]; omega⟩
  ·go_wp2_with fail
   go_ret
   exact ⟨_,M,rfl,by have:=HLn.out; omega,ST.out⟩
end Go.Proofs.YtknaemlnhediaaaGreatDoor.c
