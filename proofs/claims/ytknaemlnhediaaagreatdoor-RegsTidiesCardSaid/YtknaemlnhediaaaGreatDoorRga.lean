/- One instruction, one function put behind a list that the call owns. Conditions: lengths. Memory of Tidy: functions of the call's own, their code in new memory. Conditions: lengths. Code like other code is tidied alike; contracts of slices.Contains for bools; memory of the program's Tidy. Conditions: lengths. Contract of the program's without: code without some instructions. Conditions: right code. Contract of the reference's without: a function without one instruction. Conditions: right code. -/
import Derived.Test.YtknaemlnhediaaaGreatDoorCopied
import Derived.Test.YtknaemlnhediaaaGreatDoorGm
import Derived.Test.YtknaemlnhediaaaGreatDoorTidyP
import Derived.Test.YtknaemlnhediaaaGreatDoorIq
import Derived.Test.YtknaemlnhediaaaGreatDoorSlots
import Derived.Test.YtknaemlnhediaaaGreatDoorRvr
namespace Go.Proofs.YtknaemlnhediaaaGreatDoor.c
open Go.RowKit
set_option linter.unusedVariables false
set_option maxRecDepth 100000
set_option maxHeartbeats 6400000
set_option linter.unusedSimpArgs false
theorem Blk.newer {w:World} {g:Nat} {t:TypeId} {cs cs':Array Value} (hg:g=w.heap.size) (hc:cs=cs'):Blk (w.alloc (.cells cs' t)) g t cs:=by rw [hg,hc]; exact Blk.new _ _ _
theorem own_keep {w w':World} {base:Nat} {e:TypeId} {size:Nat} {v:Value} {n:Nat} {xs:List Value} (h:w.ownsRow base e size v n xs) (hk:∀ g,base ≤ g → w'.heap[g]?=w.heap[g]?):w'.ownsRow base e size v n xs:=by
 refine ⟨h.1,?_⟩
 rcases h.2 with h2 | ⟨g,cap,cur,hv,hb,hg,r⟩
 ·exact .inl h2
 ·exact .inr ⟨g,cap,cur,hv,hb,(hk g hb).trans hg,r⟩
theorem rgA_list (y:Rg):(rgA y).toList=(List.range 11).map (rgC y):=rfl
theorem rfA_list (f:Rf):(rfA f).toList=(List.range 9).map (rfC f):=rfl
theorem wpList_append_rg {w:World} {ops:Array Oper} {rest:List Oper} {o:Oper} {a:Act} {Q:Exit → Act → World → Prop} (hgd:o.guard=none) (s x:Operand)
  (ho:o.op=.call { callee:=.builtin .append,args:=#[s,x],argTypes:=#[57,57] }) (base:Nat) (v:Value) (M:List Rg) (y:Rg) (hs:a.eval s=v) (hown:w.ownsRow base 67 11 v M.length (recCells 11 rgC M))
  (g:Nat) (hx:a.eval x=.slice (some ⟨g,0,none⟩) 1 1) (hg:Blk w g 67 (rgA y)) (hb:M.length ≤ 1000000) (hbase:base ≤ w.heap.size)
  (h:∀ v' w',w'.ownsRow base 67 11 v' (M ++ [y]).length (recCells 11 rgC (M ++ [y])) → w.grownBy w' v.ownBlock → wpList Tryz.prog ops Q rest (a.put o.dst v') w'):wpList Tryz.prog ops Q (o :: rest) a w:=by
 obtain ⟨i0,hi0,hz0,hz1,hz2⟩:=info_parts info_reg
 refine wpList_append_own w hgd s x 57 ho base 67 i0 _ 11 112 Tryz.underlying57 hi0 hz0 hz1 hz2 rfl (by decide) v M.length _ hs hown ⟨g,0,none⟩ 1 1 ((List.range 11).map (rgC y)) hx rfl ?_ ?_ (by unfold maxLen; omega) (by omega) hbase ?_
 ·intro j q hj
  rw [Addr.add_lit,Nat.zero_add,hg.cell,← hj,← rgA_list,Array.getElem?_toList]
 ·intro q hq
  obtain ⟨j,_,rfl⟩:=List.mem_map.1 hq
  exact rgC_one y j
 ·intro v' w' h2 h3 _
  refine h v' w' ?_ h3
  rw [recCells_append,recCells_one,List.length_append]
  exact h2
theorem wpList_append_rf {w:World} {ops:Array Oper} {rest:List Oper} {o:Oper} {a:Act} {Q:Exit → Act → World → Prop} (hgd:o.guard=none) (s x:Operand)
  (ho:o.op=.call { callee:=.builtin .append,args:=#[s,x],argTypes:=#[29,29] }) (base:Nat) (v:Value) (M:List Rf) (y:Rf) (hs:a.eval s=v) (hown:w.ownsRow base 59 9 v M.length (recCells 9 rfC M))
  (g:Nat) (hx:a.eval x=.slice (some ⟨g,0,none⟩) 1 1) (hg:Blk w g 59 (rfA y)) (hb:M.length ≤ 1000000) (hbase:base ≤ w.heap.size)
  (h:∀ v' w',w'.ownsRow base 59 9 v' (M ++ [y]).length (recCells 9 rfC (M ++ [y])) → w.grownBy w' v.ownBlock → wpList Tryz.prog ops Q rest (a.put o.dst v') w'):wpList Tryz.prog ops Q (o :: rest) a w:=by
 obtain ⟨i0,hi0,hz0,hz1,hz2⟩:=info_parts info_rfn
 refine wpList_append_own w hgd s x 29 ho base 59 i0 _ 9 96 Tryz.underlying29 hi0 hz0 hz1 hz2 rfl (by decide) v M.length _ hs hown ⟨g,0,none⟩ 1 1 ((List.range 9).map (rfC y)) hx rfl ?_ ?_ (by unfold maxLen; omega) (by omega) hbase ?_
 ·intro j q hj
  rw [Addr.add_lit,Nat.zero_add,hg.cell,← hj,← rfA_list,Array.getElem?_toList]
 ·intro q hq
  obtain ⟨j,_,rfl⟩:=List.mem_map.1 hq
  exact rfC_one y j
 ·intro v' w' h2 h3 _
  refine h v' w' ?_ h3
  rw [recCells_append,recCells_one,List.length_append]
  exact h2
theorem own_apart {w w':World} {base base2 sz sz2 n m:Nat} {t t2:TypeId} {u v:Value} {xs ys:List Value} (h:w.ownsRow base t sz u n xs) (s:w.ownsRow base2 t2 sz2 v m ys) (hne:t ≠ t2) (g:w.grownBy w' v.ownBlock):w'.ownsRow base t sz u n xs:=by
 obtain ⟨hl,h2⟩:=h
 refine ⟨hl,?_⟩
 rcases h2 with h2 | ⟨gg,cap,cur,rfl,hb,hg,r⟩
 ·exact .inl h2
 ·refine .inr ⟨gg,cap,cur,rfl,hb,?_,r⟩
  have hB:Blk w gg t cur:=hg
  refine (g.block gg hB.lt fun e=>?_).trans hg
  rcases s.2 with ⟨rfl,_⟩ | ⟨g',cap',cur',rfl,_,hg',_⟩
  ·cases e
  ·have e2:gg=g':=Option.some.inj e
   subst e2
   rw [hg] at hg'
   exact hne (Obj.cells.inj (Option.some.inj hg')).2.1
theorem own_empty (W:World):(W.alloc (.cells #[] 67)).ownsRow W.heap.size 67 11 (.slice (some ⟨W.heap.size,0,none⟩) 0 0) ([]:List Rg).length (recCells 11 rgC []) :=
 ⟨rfl,.inr ⟨W.heap.size,0,#[],rfl,Nat.le_refl _,Blk.new _ _ _,Nat.le_refl _,by unfold maxLen; omega,rfl,rfl⟩⟩
theorem wpList_append_rgs {w:World} {ops:Array Oper} {rest:List Oper} {o:Oper} {a:Act} {Q:Exit → Act → World → Prop} (hgd:o.guard=none) (s x:Operand)
  (ho:o.op=.call { callee:=.builtin .append,args:=#[s,x],argTypes:=#[57,57] }) (base:Nat) (v:Value) (M d:List Rg) (hs:a.eval s=v) (hown:w.ownsRow base 67 11 v M.length (recCells 11 rgC M))
  (b off cap:Nat) {n:Nat} (hn:n=d.length) (hx:a.eval x=.slice (some ⟨b,off,none⟩) n cap) (top:At w (some ⟨b,off,none⟩) d.length 11 (fun i j=>rgC (d.getD i default) j)) (hpos:0 < n) (hb:M.length + n ≤ 1000000) (hbase:base ≤ w.heap.size)
  (h:∀ v' w',w'.ownsRow base 67 11 v' (M ++ d).length (recCells 11 rgC (M ++ d)) → w.grownBy w' v.ownBlock → wpList Tryz.prog ops Q rest (a.put o.dst v') w'):wpList Tryz.prog ops Q (o :: rest) a w:=by
 subst hn
 obtain ⟨i0,hi0,hz0,hz1,hz2⟩:=info_parts info_reg
 obtain ⟨b',off',he,_,hcc⟩:=top hpos
 cases he
 refine wpList_append_own w hgd s x 57 ho base 67 i0 _ 11 112 Tryz.underlying57 hi0 hz0 hz1 hz2 rfl (by decide) v M.length _ hs hown ⟨b,off,none⟩ d.length cap (recCells 11 rgC d) hx (recCells_len 11 rgC d) ?_ (recCells_ones rgC_one d) (by unfold maxLen; omega) (by omega) hbase ?_
 ·exact news_rec (C:=rgC) (c:=d) (sz:=11) (fun i j hi hj=>hcc i j hi hj)
 ·intro v' w' h2 h3 _
  refine h v' w' ?_ h3
  rw [recCells_append,List.length_append]
  exact h2
structure TdSt (w0 w:World) (v:Value) (l M:List Rf):Prop where
 ext:Ext w0 w
 own:w.ownsRow w0.heap.size 59 9 v M.length (recCells 9 rfC M)
 rows:∀ j,j < M.length → ∃ base,w.ownsRow base 67 11 (.slice (M.getD j default).A (M.getD j default).code.length (M.getD j default).cap) (M.getD j default).code.length (recCells 11 rgC (M.getD j default).code)
 like:∀ j,j < M.length → ∃ A c,M.getD j default={ tidyF (l.getD j default) with A:=A,cap:=c }
section
variable {w0 w w':World} {v v':Value} {l M:List Rf}
theorem TdSt.ext' (s:TdSt w0 w v l M) (x:Ext w w'):TdSt w0 w' v l M:=⟨s.ext.trans x,own_ext s.own x,fun j hj=>let ⟨b,h⟩:=s.rows j hj; ⟨b,own_ext h x⟩,s.like⟩
theorem TdSt.start (w0:World) (l:List Rf):TdSt w0 w0 (.slice none 0 0) l []:=⟨Ext.refl _,World.ownsRow_nil _ _ _ _,fun j hj=>(by cases hj),fun j hj=>(by cases hj)⟩
theorem TdSt.push (s:TdSt w0 w v l M) {y:Rf} {base:Nat} (g:w.grownBy w' v.ownBlock) (ow:w'.ownsRow w0.heap.size 59 9 v' (M ++ [y]).length (recCells 9 rfC (M ++ [y])))
  (hr:w.ownsRow base 67 11 (.slice y.A y.code.length y.cap) y.code.length (recCells 11 rgC y.code)) (hl:∃ A c,y={ tidyF (l.getD M.length default) with A:=A,cap:=c }):TdSt w0 w' v' l (M ++ [y]):=by
 refine ⟨s.ext.grown g (own_row s.own),ow,fun j hj=>?_,fun j hj=>?_⟩
 ·rcases Nat.lt_or_ge j M.length with h | h
  ·rw [snoc_old h]
   obtain ⟨b,hb⟩:=s.rows j h
   exact ⟨b,own_apart hb s.own (by decide) g⟩
  ·obtain rfl:j=M.length:=by simp at hj; omega
   rw [snoc_new]
   exact ⟨base,own_apart hr s.own (by decide) g⟩
 ·rcases Nat.lt_or_ge j M.length with h | h
  ·rw [snoc_old h]
   exact s.like j h
  ·obtain rfl:j=M.length:=by simp at hj; omega
   rw [snoc_new]
   exact hl
end
theorem DelS.all {P:Rg → Prop} (hP:∀ i x,P x → P (delX i x)) {m:Nat} {c d:List Rg} (h:DelS m c d) (hc:∀ x,x ∈ c → P x):∀ x,x ∈ d → P x:=by
 induction h with
 | zero=>exact hc
 | @succ n c c' i _ _ ih =>
  refine ih fun x hx=>?_
  obtain ⟨y,hy,rfl⟩:=List.mem_map.1 (show x ∈ (c.eraseIdx i).map (delX i) from hx)
  exact hP i y (hc y (List.mem_of_mem_eraseIdx hy))
theorem delX_At (i:Nat) (x:Rg):(delX i x).A=x.A∧(delX i x).args=x.args:=⟨by unfold delX; split <;> rfl,(delX_op i x).2.2.2.2.2⟩
theorem DelS.nums {w:World} {m:Nat} {c d:List Rg} (h:DelS m c d) (hc:∀ x,x ∈ c → NumsAt w x.A x.args):∀ x,x ∈ d → NumsAt w x.A x.args :=
 h.all (P:=fun x=>NumsAt w x.A x.args) (fun i x hx=>by rw [(delX_At i x).1,(delX_At i x).2]; exact hx) hc
theorem likeR_mk {L N:List Rf} (hl:L.length=N.length) (h:∀ i,i < L.length → pureF (L.getD i default)=pureF (N.getD i default)):LikeR L N:=by
 unfold LikeR pureR
 refine List.ext_getElem (by simpa using hl) fun i h1 h2=>?_
 have e:∀ (K:List Rf) (hi:i < K.length),K[i]=K.getD i default:=fun K hi=>by rw [List.getD,List.getElem?_eq_getElem hi]; rfl
 rw [List.getElem_map,List.getElem_map,e _ (by simpa using h1),e _ (by simpa using h2)]
 exact h i (by simpa using h1)
theorem TdSt.out {w0 w wz:World} {v:Value} {l M:List Rf} (s:TdSt w0 w v l M) (hlen:M.length=l.length) (hz:Ext wz w) (hv:validR l=0) (har:∀ j,j < l.length → ∀ x,x ∈ (l.getD j default).code → NumsAt wz x.A x.args):∃ A c,v=.slice A M.length c∧RfAt w A M∧LikeR M (tidyL l):=by
 obtain ⟨A,c,hv2,htop⟩:=own_rec_at s.own
 have hg:∀ j,j < l.length → GoodF l (l.getD j default):=fun j hj=>((validR_parts hv).2.2 j hj).1
 refine ⟨A,c,hv2,⟨htop,fun f hf=>?_⟩,likeR_mk (by rw [hlen]; simp [tidyL]) fun j hj=>?_⟩
 ·obtain ⟨j,hj,rfl⟩:=List.getElem_of_mem hf
  have e:M[j]=M.getD j default:=by rw [List.getD,List.getElem?_eq_getElem hj]; rfl
  rw [e]
  obtain ⟨base,hb⟩:=s.rows j hj
  obtain ⟨A',c',he,ht⟩:=own_rec_at hb
  cases he
  refine ⟨ht,fun x hx=>?_⟩
  obtain ⟨A2,c2,h2⟩:=s.like j hj
  have hx2:x ∈ tidyC (l.getD j default).code:=by rw [h2] at hx; exact hx
  obtain ⟨m,hm,_⟩:=tidyC_spec (hg j (by omega))
  exact (hm.nums (har j (by omega)) x hx2).ext hz
 ·obtain ⟨A2,c2,h2⟩:=s.like j hj
  rw [h2,tidyL_at l (by omega)]
  rfl
theorem At.far11 {w:World} {A:Option Addr} {n bf:Nat} {t:TypeId} {c:Nat → Nat → Value} {cs:Array Value} (h:At w A n 11 c) (B:Blk w bf t cs) (hs:cs.size ≤ 10) {w':World} (hz:w.heap.size ≤ w'.heap.size) (hk:∀ g,g ≠ bf → w'.heap[g]?=w.heap[g]?):At w' A n 11 c:=by
 intro hn
 obtain ⟨b,off,rfl,hb,hc⟩:=h hn
 have hne:b ≠ bf:=by
  intro e
  subst e
  have h1:=hc 0 10 hn (by omega)
  rw [B.cell,Array.getElem?_eq_none (by omega)] at h1
  cases h1
 refine ⟨b,off,rfl,Nat.lt_of_lt_of_le hb hz,fun i j hi hj=>?_⟩
 rw [← hc i j hi hj]
 unfold World.cell?
 simp only [hk b hne]
theorem delC_pure (c:List Rg) (i:Nat):(delC c i).map pureX=delC (c.map pureX) i:=by
 have e:∀ y:Rg,pureX (delX i y)=delX i (pureX y):=fun y=>by
  unfold delX pureX
  by_cases h:(partsR y.op).1=3∧(i:Int) < y.d
  ·rw [if_pos h,if_pos h]
  ·rw [if_neg h,if_neg h]
 have e2:∀ (c:List Rg) (i:Nat),(c.eraseIdx i).map pureX=(c.map pureX).eraseIdx i:=by
  intro c
  induction c with
  | nil=>intro i; rfl
  | cons y c ih =>
   intro i
   cases i with
   | zero=>rfl
   | succ i=>simp [ih i]
 unfold delC
 rw [← e2,List.map_map,List.map_map]
 refine List.map_congr_left fun y _=>e y
theorem DelS.like {m:Nat} {c d:List Rg} (h:DelS m c d):∀ {e:List Rg},c.map pureX=e.map pureX → ∃ d',DelS m e d'∧d.map pureX=d'.map pureX:=by
 induction h with
 | zero=>exact fun he=>⟨_,.zero,he⟩
 | @succ n c c' i hi _ ih =>
  intro e he
  have h2:rmB e i=true:=by rw [← rmB_pure,← he,rmB_pure]; exact hi
  obtain ⟨d',a,b⟩:=ih (e:=delC e i) (by rw [delC_pure,he,← delC_pure])
  exact ⟨d',.succ h2 a,b⟩
theorem tidyL_like {L l:List Rf} (hL:LikeR L l) (h0:validR l=0):LikeR (tidyL L) (tidyL l):=by
 have hv:validR L=0:=by rw [validR_like hL]; exact h0
 refine likeR_mk (by simp [tidyL,hL.len]) fun k hk=>?_
 have hkL:k < L.length:=by simpa [tidyL] using hk
 have hkl:k < l.length:=by rw [← hL.len]; exact hkL
 rw [tidyL_at L hkL,tidyL_at l hkl]
 have g1:=((validR_parts hv).2.2 k hkL).1
 have g2:=((validR_parts h0).2.2 k hkl).1
 have hp:=hL.at_ k
 obtain ⟨n,a,b⟩:=tidyC_spec g1
 obtain ⟨d',a2,b2⟩:=a.like (show (L.getD k default).code.map pureX=(l.getD k default).code.map pureX from congrArg (fun f:Rf=>f.code) hp)
 have e:tidyC (l.getD k default).code=d':=tidyC_eq g2 a2 (tidied_like b2 b)
 have h2:=congrArg (fun f:Rf=>{ f with code:=d'.map pureX }) hp
 unfold tidyF
 show ({ L.getD k default with A:=none,cap:=0,code:=(tidyC (L.getD k default).code).map pureX }:Rf)={ l.getD k default with A:=none,cap:=0,code:=(tidyC (l.getD k default).code).map pureX }
 rw [e,b2]
 exact h2
theorem gIndexB_any (gD cap:Nat) (n:Nat) (F:Nat → Bool) (w:World) (h:RowAt w gD 4 n (fun z=>.bool (F z))) (hn:n ≤ 6000) :
  Calls Tryz.prog 187 #[.slice (some ⟨gD,0,none⟩) n cap,.bool true] w fun e w'=>∃ k:Int,e=.returned (.int .i64 k)∧(0 ≤ k ↔ ∃ z,z < n∧F z=true)∧w=w':=by
 have HA:=Lib.hid h
 clear h
 go_enter Tryz.func187,Tryz.ntmps187
 go_wp2_with fail
 go_loopw [8] (fun i wr=>∃ j:Nat,j ≤ n∧i=.int .i64 j∧(∀ r,r < j → F r=false)∧w=wr) (fun i _=>n - (intOf i).toNat)
 case atStart=>exact ⟨0,Nat.zero_le _,rfl,fun r hr=>by omega,rfl⟩
 case round =>
  obtain ⟨j,hj,rfl,hno,rfl⟩:=hrel
  have HNO:=Lib.hid hno
  clear hno
  by_cases hlt:j < n
  ·have y0:=HA.out.cell hlt
   have zy:=HA.out.lt
   obtain ⟨b,hb⟩:∃ b,F j=b:=⟨_,rfl⟩
   rw [hb] at y0
   have HB:=Lib.hid hb
   clear hb
   cases b
   ·go_wp2_with fail
    case roundEnd=>exact ⟨⟨j + 1,by omega,by go_num,(fun r hr=>by
     rcases Nat.lt_or_ge r j with h | h
     ·exact HNO.out r h
     ·obtain rfl:r=j:=by omega
      exact HB.out),by first | rfl | trivial⟩,by simp [intOf]; omega⟩
   ·go_wp2_with fail
    go_ret
    exact ⟨(j:Int),rfl,⟨fun _=>⟨j,hlt,HB.out⟩,fun _=>by omega⟩,rfl⟩
  ·go_wp2_with fail
   go_ret
   refine ⟨-1,rfl,⟨fun h=>absurd h (by decide),fun ⟨z,hz,e⟩=>?_⟩,rfl⟩
   rw [HNO.out z (by omega)] at e
   cases e
open Classical in
theorem gContainsB_any (gD cap:Nat) (n:Nat) (F:Nat → Bool) (w:World) (h:RowAt w gD 4 n (fun z=>.bool (F z))) (hn:n ≤ 6000) :
  Calls Tryz.prog 120 #[.slice (some ⟨gD,0,none⟩) n cap,.bool true] w fun e w'=>e=.returned (.bool (decide (∃ z,z < n∧F z=true)))∧w=w':=by
 have HI:=Lib.hid (gIndexB_any gD cap n F w h hn)
 clear h
 by_cases hm:∃ z,z < n∧F z=true
 all_goals
  have HM:=Lib.hid hm
  clear hm
  go_enter Tryz.func120,Tryz.ntmps120
  go_wp2_with (first
   | (go_at_call 187; refine (HI.out).mono ?_; rintro r w' ⟨k,rfl,hk,rfl⟩; have HK:=Lib.hid hk; clear hk))
  all_goals
   go_ret
 ·exact ⟨ret_bool (by rw [decide_eq_true HM.out,decide_eq_true (HK.out.2 HM.out)]),by first | rfl | trivial⟩
 ·exact ⟨ret_bool (by rw [decide_eq_false HM.out,decide_eq_false (fun h=>HM.out (HK.out.1 h))]),by first | rfl | trivial⟩
structure GtSt (w0 w:World) (G:Nat) (M:List Rf):Prop where
 ext:Ext w0 w
 row:RecRow w G 59 9 rfC M
 lo:w0.heap.size ≤ G
 rows:∀ j,j < M.length → ∃ g,(M.getD j default).A=some ⟨g,0,none⟩∧RecRow w g 67 11 rgC (M.getD j default).code
 args:∀ j,j < M.length → ∀ x,x ∈ (M.getD j default).code → NewN w w0.heap.size x.A x.args
theorem rec_ne {α β:Type} [Inhabited α] [Inhabited β] {w:World} {t u:TypeId} {sz sz':Nat} {C:α → Nat → Value} {D:β → Nat → Value} {c:List α} {d:List β} {g g':Nat} (h:RecRow w g t sz C c) (k:RecRow w g' u sz' D d) (hne:t ≠ u):g ≠ g':=by
 intro e
 subst e
 obtain ⟨c1,b1,_⟩:=h
 obtain ⟨c2,b2,_⟩:=k
 unfold Blk at b1 b2
 rw [b1] at b2
 exact hne (Obj.cells.inj (Option.some.inj b2)).2.1
section
variable {w0 w w':World} {G:Nat} {M:List Rf}
theorem GtSt.ext' (s:GtSt w0 w G M) (x:Ext w w'):GtSt w0 w' G M:=⟨s.ext.trans x,s.row.ext x,s.lo,fun j hj=>let ⟨g,h1,h2⟩:=s.rows j hj; ⟨g,h1,h2.ext x⟩,fun j hj y hy=>(s.args j hj y hy).ext x⟩
theorem GtSt.put (s:GtSt w0 w G M) {k:Nat} (hk:k < M.length) {d:List Rg} {g c:Nat} (hr:RecRow w g 67 11 rgC d) (ha:∀ x,x ∈ d → NewN w w0.heap.size x.A x.args) :
  GtSt w0 (w.setCell ⟨G,k * 9 + 8,none⟩ (.slice (some ⟨g,0,none⟩) d.length c)) G (M.set k { M.getD k default with A:=some ⟨g,0,none⟩,cap:=c,code:=d }):=by
 have hat:∀ j,(M.set k { M.getD k default with A:=some ⟨g,0,none⟩,cap:=c,code:=d }).getD j default=if j=k then { M.getD k default with A:=some ⟨g,0,none⟩,cap:=c,code:=d } else M.getD j default:=fun j=>by
  by_cases e:j=k
  ·subst e
   rw [if_pos rfl]
   simp [List.getD,hk]
  ·rw [if_neg e]
   simp only [List.getD,List.getElem?_set_ne (fun e2=>e e2.symm)]
 refine ⟨s.ext.setCell s.lo _,s.row.set_ hk (by decide) (fun j hj=>?_),s.lo,fun j hj=>?_,fun j hj x hx=>?_⟩
 ·rcases (show j=0 ∨ j=1 ∨ j=2 ∨ j=3 ∨ j=4 ∨ j=5 ∨ j=6 ∨ j=7 ∨ j=8 by omega) with rfl | rfl | rfl | rfl | rfl | rfl | rfl | rfl | rfl <;> rfl
 ·rw [hat]
  rw [List.length_set] at hj
  by_cases e:j=k
  ·rw [if_pos e]
   exact ⟨g,rfl,hr.far (rec_ne hr s.row (by decide)) _⟩
  ·rw [if_neg e]
   obtain ⟨g',h1,h2⟩:=s.rows j hj
   exact ⟨g',h1,h2.far (rec_ne h2 s.row (by decide)) _⟩
 ·rw [hat] at hx
  rw [List.length_set] at hj
  by_cases e:j=k
  ·rw [if_pos e] at hx
   exact (ha x hx).far s.row (by decide) _ _
  ·rw [if_neg e] at hx
   exact (s.args j hj x hx).far s.row (by decide) _ _
theorem GtSt.code (s:GtSt w0 w G M) {j:Nat} (hj:j < M.length):RgAt w (M.getD j default).A (M.getD j default).code:=by
 obtain ⟨g,h1,h2⟩:=s.rows j hj
 rw [h1]
 exact ⟨h2.at_,fun x hx=>(s.args j hj x hx).at_⟩
theorem GtSt.all (s:GtSt w0 w G M):RfAt w (some ⟨G,0,none⟩) M:=by
 refine ⟨s.row.at_,fun f hf=>?_⟩
 obtain ⟨j,hj,rfl⟩:=List.getElem_of_mem hf
 have e:M[j]=M.getD j default:=by rw [List.getD,List.getElem?_eq_getElem hj]; rfl
 rw [e]
 exact s.code hj
end
def TdRel (N M:List Rf) (k:Nat):Prop:=M.length=N.length∧∀ j,j < N.length → ∃ A c d m,M.getD j default={ N.getD j default with A:=A,cap:=c,code:=d }∧DelS m (N.getD j default).code d∧(j < k → Tidied d)
theorem TdRel.start (N:List Rf):TdRel N N 0:=⟨rfl,fun j hj=>⟨_,_,_,0,rfl,.zero,fun h=>by omega⟩⟩
theorem TdRel.next {N M:List Rf} {k:Nat} (h:TdRel N M k) (ht:Tidied (M.getD k default).code):TdRel N M (k + 1):=⟨h.1,fun j hj=>by
 obtain ⟨A,c,d,m,h1,h2,h3⟩:=h.2 j hj
 refine ⟨A,c,d,m,h1,h2,fun h4=>?_⟩
 by_cases e:j=k
 ·subst e
  rw [h1] at ht
  exact ht
 ·exact h3 (by omega)⟩
theorem TdRel.put {N M:List Rf} {k:Nat} (h:TdRel N M k) (hk:k < N.length) {d:List Rg} {m:Nat} (hd:DelS m (M.getD k default).code d) (A:Option Addr) (c:Nat):TdRel N (M.set k { M.getD k default with A:=A,cap:=c,code:=d }) k:=by
 refine ⟨by rw [List.length_set]; exact h.1,fun j hj=>?_⟩
 obtain ⟨A2,c2,d2,m2,h1,h2,h3⟩:=h.2 j hj
 by_cases e:j=k
 ·subst e
  have e2:(M.set j { M.getD j default with A:=A,cap:=c,code:=d }).getD j default={ M.getD j default with A:=A,cap:=c,code:=d }:=by simp [List.getD,h.1,hj]
  rw [e2,h1]
  rw [h1] at hd
  exact ⟨A,c,d,m2 + m,rfl,h2.trans hd,fun h4=>by omega⟩
 ·have e2:(M.set k { M.getD k default with A:=A,cap:=c,code:=d }).getD j default=M.getD j default:=by simp only [List.getD,List.getElem?_set_ne (fun e3=>e e3.symm)]
  rw [e2]
  exact ⟨A2,c2,d2,m2,h1,h2,h3⟩
theorem TdRel.good {l N M:List Rf} {k:Nat} (h:TdRel N M k) {j:Nat} (hj:j < N.length) (g:GoodF l (N.getD j default)):GoodF l (M.getD j default):=by
 obtain ⟨A,c,d,m,h1,h2,_⟩:=h.2 j hj
 have g2:GoodF l ((N.getD j default).with_ d):=h2.good (show GoodF l ((N.getD j default).with_ (N.getD j default).code) from g)
 rw [h1]
 exact ⟨g2.par,g2.reg,g2.pos,g2.few,g2.inst,g2.last⟩
theorem TdRel.end_ {N M:List Rf} (h:TdRel N M N.length) (h0:validR N=0):LikeR M (tidyL N):=by
 refine likeR_mk (by rw [h.1]; simp [tidyL]) fun j hj=>?_
 rw [h.1] at hj
 obtain ⟨A,c,d,m,h1,h2,h3⟩:=h.2 j hj
 rw [h1,tidyL_at N hj]
 unfold tidyF
 rw [tidyC_eq ((validR_parts h0).2.2 j hj).1 h2 (h3 hj)]
 rfl
theorem atG_succ (gone:Nat → Bool) (j:Nat):atG gone (j + 1)=atG gone j + if gone j=true then 0 else 1:=by
 unfold atG
 rw [List.range_succ,List.filter_append,List.length_append]
 congr 1
 cases h:gone j <;> simp [h]
theorem atG_le (gone:Nat → Bool) (j:Nat):atG gone j ≤ j:=by
 unfold atG
 have:=List.length_filter_le (fun j=>!gone j) (List.range j)
 simpa using this
def withoutTo (c:List Rg) (gone:Nat → Bool) (k:Nat):List Rg:=((List.range k).filter fun j=>!gone j).map fun j=>movX gone (c.getD j default)
theorem withoutTo_all (c:List Rg) (gone:Nat → Bool):withoutTo c gone c.length=withoutC c gone:=rfl
theorem withoutTo_succ (c:List Rg) (gone:Nat → Bool) (k:Nat):withoutTo c gone (k + 1)=withoutTo c gone k ++ if gone k=true then [] else [movX gone (c.getD k default)]:=by
 unfold withoutTo
 rw [List.range_succ,List.filter_append,List.map_append]
 congr 1
 cases h:gone k <;> simp [h]
theorem withoutTo_len (c:List Rg) (gone:Nat → Bool) (k:Nat):(withoutTo c gone k).length ≤ k:=by
 unfold withoutTo
 have:=List.length_filter_le (fun j=>!gone j) (List.range k)
 simpa using this
theorem gwithout_any (l:List Rf) (f:Rf) (gone:Nat → Bool) (gD:Nat) {n cap:Nat} (w:World) (g:GoodF l f) (hC:RgAt w f.A f.code) (hG:RowAt w gD 4 n (fun z=>.bool (gone z))) (hn:n=f.code.length) :
  Calls Tryz.prog 121 #[.slice f.A n cap,.slice (some ⟨gD,0,none⟩) n n] w fun e w'=>∃ v,e=.returned v∧w'.ownsRow w.heap.size 67 11 v (withoutC f.code gone).length (recCells 11 rgC (withoutC f.code gone))∧Ext w w':=by
 have hfew:n ≤ 6000:=by have:=g.few; omega
 obtain ⟨b,off,hA,hb,_⟩:=hC.top (by have:=g.pos; omega)
 rw [hA] at hC ⊢
 have HLD:Hid (∀ p,p < n → leadsR (f.code.getD p default).op=true → 0 ≤ (f.code.getD p default).d∧(f.code.getD p default).d < n):=fun p hp h=>by
  have h3:=g.lead (p:=p) (by omega) (leads_parts h)
  omega
 have HC:=Lib.hid hC
 have HG:=Lib.hid hG
 have HN:=Lib.hid hn
 have hmk:=fun W=>run_make_row' (P:=Tryz.prog) 65 3 (.int .i64 0) 8 Tryz.underlying65 info_int rfl .i64 .i64 n (by omega) (by omega) W
 clear hC hG hn hA hb g
 go_enter Tryz.func121,Tryz.ntmps121
 go_wp2_with fail
 clear hmk
 have R0:Hid (RowAt (w.alloc (.cells (madeCells #[.int .i64 0] n) 3)) w.heap.size 3 n (fun z=>if z < 0 then .int .i64 (atG gone z:Nat) else .int .i64 0)):=(RowAt.made w 3 (.int .i64 0) n).same fun z hz=>by rw [if_neg (Nat.not_lt_zero _)]
 go_loopw [6,16] (fun v i wr=>∃ j:Nat,j ≤ n∧i=.int .i64 j∧v=.int .i64 (atG gone j:Nat)∧RowAt wr w.heap.size 3 n (fun z=>if z < j then .int .i64 (atG gone z:Nat) else .int .i64 0)∧Ext w wr) (fun _ i _=>n - (intOf i).toNat)
 case atStart=>exact ⟨0,Nat.zero_le _,rfl,rfl,R0.out,(Ext.refl _).alloc _⟩
 case round =>
  clear R0
  obtain ⟨j,hj,rfl,rfl,hr,hx⟩:=hrel
  have HR:=Lib.hid hr
  have HX:=Lib.hid hx
  by_cases hlt:j < n
  ·have y0:=(HG.out.ext hx).cell hlt
   have zy:=(HG.out.ext hx).lt
   have n0:=hr.cell hlt
   have f0:=hr.frozen j
   have zn:=hr.lt
   have hne:gD ≠ w.heap.size:=by have:=HG.out.lt; omega
   have hle:=atG_le gone j
   have HS:=Lib.hid (atG_succ gone j)
   obtain ⟨aj,haj⟩:∃ aj,atG gone j=aj:=⟨_,rfl⟩
   obtain ⟨gb,hgb⟩:∃ gb,gone j=gb:=⟨_,rfl⟩
   rw [haj] at hle HS ⊢
   rw [hgb] at y0 HS
   have HR2:Hid (RowAt (wr.setCell ⟨w.heap.size,j,none⟩ (.int .i64 (aj:Nat))) w.heap.size 3 n (fun z=>if z < j + 1 then .int .i64 (atG gone z:Nat) else .int .i64 0)):=hr.set_ fun z hz=>by
    by_cases e:z=j
    ·subst e
     rw [if_pos rfl,if_pos (Nat.lt_succ_self _),haj]
    ·rw [if_neg e]
     by_cases h:z < j
     ·rw [if_pos h,if_pos (by omega)]
     ·rw [if_neg h,if_neg (by omega)]
   clear hr hx haj hgb
   cases gb
   ·go_wp2_with fail
    case roundEnd=>exact ⟨⟨j + 1,by omega,by go_num,by rw [HS.out,if_neg (by decide)]; go_num,HR2.out,HX.out.setCell (Nat.le_refl _) _⟩,by simp [intOf]; omega⟩
   ·go_wp2_with fail
    case roundEnd=>exact ⟨⟨j + 1,by omega,by go_num,by rw [HS.out,if_pos rfl,Nat.add_zero],HR2.out,HX.out.setCell (Nat.le_refl _) _⟩,by simp [intOf]; omega⟩
  ·obtain rfl:j=n:=by omega
   have HRA:Hid (RowAt wr w.heap.size 3 j (fun z=>.int .i64 (atG gone z:Nat))):=hr.same fun z hz=>by rw [if_pos hz]
   clear hr hx HR
   rename World=>wo
   go_wp2_with fail
   go_loopw [8,33] (fun v i wq=>∃ k:Nat,k ≤ j∧i=.int .i64 k∧wq.ownsRow wo.heap.size 67 11 v (withoutTo f.code gone k).length (recCells 11 rgC (withoutTo f.code gone k))∧Ext wo wq) (fun _ i _=>j - (intOf i).toNat)
   case atStart=>exact ⟨0,Nat.zero_le _,rfl,World.ownsRow_nil _ _ _ _,Ext.refl _⟩
   case round =>
    obtain ⟨k,hk,rfl,ow,hx2⟩:=hrel
    have OW:=Lib.hid ow
    have HX2:=Lib.hid hx2
    by_cases hlk:k < j
    ·have y0:=(HG.out.ext (HX.out.trans hx2)).cell hlk
     have zy:=(HG.out.ext (HX.out.trans hx2)).lt
     obtain ⟨x,hx⟩:∃ x,x=f.code.getD k default:=⟨_,rfl⟩
     obtain ⟨hb1,d0,d1,d2,d3,d4,d5,d6,d7,d8,d9,d10⟩:=(HC.out.ext (HX.out.trans hx2)).cells (by have:=HN.out; omega) hx
     have hln:=withoutTo_len f.code gone k
     have HS:=Lib.hid (withoutTo_succ f.code gone k)
     have hld:=HLD.out k hlk
     obtain ⟨gb,hgb⟩:∃ gb,gone k=gb:=⟨_,rfl⟩
     rw [hgb] at y0 HS
     rw [← hx] at HS hld
     clear ow hgb hx
     cases gb
     ·obtain ⟨lb,hlb⟩:∃ lb,leadsR x.op=lb:=⟨_,rfl⟩
      have HLE:Hid (∀ w1,Calls Tryz.prog 163 #[.int .i64 x.op] w1 fun e w'=>e=.returned (.bool lb)∧w1=w'):=fun w1=>by have h:=gleads_any x.op w1; rwa [hlb] at h
      have HLB:=Lib.hid hlb
      cases lb
      ·have HMV:Hid (movX gone x=x):=by unfold Hid movX; rw [if_neg (by rw [hlb]; decide)]
       clear hld hlb hx2
       go_wp2_with (first
        | (go_at_call 163; (with_reducible refine (HLE.out _).mono ?_); rintro r w' ⟨rfl,rfl⟩)
        | (at_builtin
           refine wpList_append_rg rfl _ _ rfl wo.heap.size _ (withoutTo f.code gone k) x rfl (own_ext (own_ext OW.out ((Ext.refl _).alloc _)) ((Ext.refl _).alloc _)) _ rfl (Blk.newer (by simp) rfl) (by omega) (by have:=HX2.out.size; (try simp); omega) ?_
           intro v' w6 ow6 g6
           have OW6:=Lib.hid ow6
           have X6:=Lib.hid ((((HX2.out.alloc _).alloc _)).grown g6 (own_row OW.out))
           clear ow6 g6))
       case roundEnd=>exact ⟨⟨k + 1,by omega,by go_num,by rw [HS.out,if_neg (by decide),HMV.out]; exact OW6.out,X6.out⟩,by simp [intOf]; omega⟩
      ·obtain ⟨hd0,hd1⟩:=hld hlb
       obtain ⟨dn,hdn⟩:∃ dn:Nat,x.d=dn:=⟨x.d.toNat,by omega⟩
       have hdj:dn < j:=by omega
       have q0:=(HRA.out.ext hx2).cell hdj
       have zq:=(HRA.out.ext hx2).lt
       have HMV:Hid (movX gone x={ x with d:=(atG gone dn:Nat) }):=by unfold Hid movX; rw [if_pos hlb,hdn,Int.toNat_natCast]
       obtain ⟨ad,had⟩:∃ ad,atG gone dn=ad:=⟨_,rfl⟩
       rw [had] at HMV q0
       rw [hdn] at d1
       clear hld hlb hx2 hd0 hd1 hdn had
       go_wp2_with (first
        | (go_at_call 163; (with_reducible refine (HLE.out _).mono ?_); rintro r w' ⟨rfl,rfl⟩)
        | (at_builtin
           refine wpList_append_rg rfl _ _ rfl wo.heap.size _ (withoutTo f.code gone k) { x with d:=(ad:Nat) } rfl (own_ext (own_ext OW.out ((Ext.refl _).alloc _)) ((Ext.refl _).alloc _)) _ rfl (Blk.newer (by simp) rfl) (by omega) (by have:=HX2.out.size; (try simp); omega) ?_
           intro v' w6 ow6 g6
           have OW6:=Lib.hid ow6
           have X6:=Lib.hid ((((HX2.out.alloc _).alloc _)).grown g6 (own_row OW.out))
           clear ow6 g6))
       case roundEnd=>exact ⟨⟨k + 1,by omega,by go_num,by rw [HS.out,if_neg (by decide),HMV.out]; exact OW6.out,X6.out⟩,by simp [intOf]; omega⟩
     ·clear hld hx2
      go_wp2_with fail
      case roundEnd=>exact ⟨⟨k + 1,by omega,by go_num,by rw [HS.out,if_pos rfl,List.append_nil]; exact own_ext OW.out exA,HX2.out.trans exA⟩,by simp [intOf]; omega⟩
    ·obtain rfl:k=j:=by omega
     clear ow hx2
     go_wp2_with fail
     go_ret
     refine ⟨_,rfl,?_,HX.out.trans HX2.out⟩
     rw [← withoutTo_all,← HN.out]
     have h:=OW.out
     refine ⟨h.1,h.2.imp id ?_⟩
     rintro ⟨g',cp,cur,e1,e2,e3⟩
     exact ⟨g',cp,cur,e1,Nat.le_trans HX.out.size e2,e3⟩
def delK (c:List Rg) (i k:Nat):List Rg:=((c.take k).eraseIdx i).map (delX i)
theorem delK_all (c:List Rg) (i:Nat):delK c i c.length=delC c i:=by unfold delK delC; rw [List.take_length]
theorem delK_succ (c:List Rg) (i:Nat) {k:Nat} (hk:k < c.length):delK c i (k + 1)=delK c i k ++ if k=i then [] else [delX i (c.getD k default)]:=by
 have hl:(c.take k).length=k:=by rw [List.length_take]; omega
 have e:c.take (k + 1)=c.take k ++ [c.getD k default]:=by
  rw [List.take_succ_eq_append_getElem hk,List.getD,List.getElem?_eq_getElem hk]
  rfl
 unfold delK
 rw [e]
 rcases Nat.lt_trichotomy k i with h | h | h
 ·rw [List.eraseIdx_of_length_le (by simp [hl]; omega),List.eraseIdx_of_length_le (by omega),if_neg (by omega),List.map_append]
  rfl
 ·subst h
  rw [List.eraseIdx_append_of_length_le (by omega),hl,Nat.sub_self,if_pos rfl,List.eraseIdx_of_length_le (l:=c.take k) (by omega)]
  simp
 ·rw [List.eraseIdx_append_of_lt_length (by omega),if_neg (by omega),List.map_append]
  rfl
theorem delK_len (c:List Rg) (i k:Nat):(delK c i k).length ≤ k:=by
 unfold delK
 rw [List.length_map]
 have h1:=List.length_eraseIdx_le (c.take k) i
 rw [List.length_take] at h1
 omega
theorem delX_A (i:Nat) (x:Rg):(delX i x).A=x.A:=by unfold delX; split <;> rfl
theorem hwithout_any (f:Rf) (i:Nat) (w:World) (hC:RgAt w f.A f.code) (hi:i < f.code.length) (hfew:f.code.length ≤ 6000) (hld:∀ p,p < f.code.length → (partsR (f.code.getD p default).op).1=3 → 0 ≤ (f.code.getD p default).d∧(f.code.getD p default).d < f.code.length) :
  Calls Tryz.prog 122 #[f.val,.int .i64 i] w fun e w'=>∃ A9 n9 c9,e=.returned (.agg #[.string f.name,.int .i64 f.params,.int .i64 f.regs,.int .i64 f.ty.base,.int .i64 f.ty.bits,.string f.ty.name,.bool f.ty.opt,.bool f.ty.err,.slice A9 n9 c9])∧n9=(delC f.code i).length∧RgAt w' A9 (delC f.code i)∧Ext w w':=by
 obtain ⟨n,hn⟩:∃ n,n=f.code.length:=⟨_,rfl⟩
 obtain ⟨b,off,hA,hb,_⟩:=hC.top (by omega)
 unfold Rf.val
 rw [← hn] at hfew hi hld ⊢
 rw [hA] at hC ⊢
 have HC:=Lib.hid hC
 have HN:=Lib.hid hn
 have HLD:=Lib.hid hld
 have HZ:Hid ((Tryz.prog.info? 59).map (·.size)=some 9):=by unfold Hid; kernel_rfl
 clear hC hn hA hb hld
 go_enter Tryz.func122,Tryz.ntmps122
 go_wp2_with fail
 have X1:Hid (Ext w ((w.alloc (.cells #[.string f.name,.int .i64 f.params,.int .i64 f.regs,.int .i64 f.ty.base,.int .i64 f.ty.bits,.string f.ty.name,.bool f.ty.opt,.bool f.ty.err,.slice (some ⟨b,off,none⟩) n f.cap] 59)).alloc (.cells #[.string ⟨#[]⟩,.int .i64 0,.int .i64 0,.int .i64 0,.int .i64 0,.string ⟨#[]⟩,.bool false,.bool false,.slice none 0 0] 59))):=((Ext.refl _).alloc _).alloc _
 have BX:Hid (Blk ((w.alloc (.cells #[.string f.name,.int .i64 f.params,.int .i64 f.regs,.int .i64 f.ty.base,.int .i64 f.ty.bits,.string f.ty.name,.bool f.ty.opt,.bool f.ty.err,.slice (some ⟨b,off,none⟩) n f.cap] 59)).alloc (.cells #[.string ⟨#[]⟩,.int .i64 0,.int .i64 0,.int .i64 0,.int .i64 0,.string ⟨#[]⟩,.bool false,.bool false,.slice none 0 0] 59)) w.heap.size 59 #[.string f.name,.int .i64 f.params,.int .i64 f.regs,.int .i64 f.ty.base,.int .i64 f.ty.bits,.string f.ty.name,.bool f.ty.opt,.bool f.ty.err,.slice (some ⟨b,off,none⟩) n f.cap]):=(Blk.new w _ _).alloc _
 have BR:Hid (Blk ((w.alloc (.cells #[.string f.name,.int .i64 f.params,.int .i64 f.regs,.int .i64 f.ty.base,.int .i64 f.ty.bits,.string f.ty.name,.bool f.ty.opt,.bool f.ty.err,.slice (some ⟨b,off,none⟩) n f.cap] 59)).alloc (.cells #[.string ⟨#[]⟩,.int .i64 0,.int .i64 0,.int .i64 0,.int .i64 0,.string ⟨#[]⟩,.bool false,.bool false,.slice none 0 0] 59)) (w.heap.size + 1) 59 #[.string ⟨#[]⟩,.int .i64 0,.int .i64 0,.int .i64 0,.int .i64 0,.string ⟨#[]⟩,.bool false,.bool false,.slice none 0 0]):=by
  have h:=Blk.new (w.alloc (.cells #[.string f.name,.int .i64 f.params,.int .i64 f.regs,.int .i64 f.ty.base,.int .i64 f.ty.bits,.string f.ty.name,.bool f.ty.opt,.bool f.ty.err,.slice (some ⟨b,off,none⟩) n f.cap] 59)) 59 #[.string ⟨#[]⟩,.int .i64 0,.int .i64 0,.int .i64 0,.int .i64 0,.string ⟨#[]⟩,.bool false,.bool false,.slice none 0 0]
  rwa [size_alloc] at h
 generalize ((w.alloc (.cells #[.string f.name,.int .i64 f.params,.int .i64 f.regs,.int .i64 f.ty.base,.int .i64 f.ty.bits,.string f.ty.name,.bool f.ty.opt,.bool f.ty.err,.slice (some ⟨b,off,none⟩) n f.cap] 59)).alloc (.cells #[.string ⟨#[]⟩,.int .i64 0,.int .i64 0,.int .i64 0,.int .i64 0,.string ⟨#[]⟩,.bool false,.bool false,.slice none 0 0] 59))=w1 at X1 BX BR ⊢
 have HLO:Hid (w.heap.size ≤ w.heap.size∧w.heap.size ≤ w.heap.size + 1∧w.heap.size ≠ w.heap.size + 1∧w.heap.size + 1 < w1.heap.size):=⟨Nat.le_refl _,by omega,by omega,BR.out.lt⟩
 go_loopw [5,6] (fun v j wr=>∃ k:Nat,k ≤ n∧j=.int .i64 k∧wr.ownsRow w1.heap.size 67 11 v (delK f.code i k).length (recCells 11 rgC (delK f.code i k))∧Ext w1 wr) (fun _ j _=>n - (intOf j).toNat)
 case atStart=>exact ⟨0,Nat.zero_le _,rfl,by unfold delK; exact World.ownsRow_nil _ _ _ _,Ext.refl _⟩
 case round =>
  obtain ⟨k,hk,rfl,ow,hx⟩:=hrel
  have OW:=Lib.hid ow
  have HX:=Lib.hid hx
  have bx:=BX.out.ext hx
  have c8:=bx.cell 8
  simp only [List.getElem?_toArray,List.getElem?_cons_zero,List.getElem?_cons_succ] at c8
  have zb:=bx.lt
  by_cases hlt:k < n
  ·have HS:=Lib.hid (delK_succ f.code i (k:=k) (by have:=HN.out; omega))
   have hln:=delK_len f.code i k
   by_cases he:k=i
   ·subst he
    clear ow hx bx
    go_wp2_with fail
    case roundEnd=>exact ⟨⟨k + 1,by omega,by go_num,by rw [HS.out,if_pos rfl,List.append_nil]; exact OW.out,HX.out⟩,by simp [intOf]; omega⟩
   ·have hne:((k:Int) == (i:Int))=false:=by rw [beq_eq_false_iff_ne]; omega
    have HNE:Hid (¬ k=i):=he
    obtain ⟨x,hxx⟩:∃ x,x=f.code.getD k default:=⟨_,rfl⟩
    obtain ⟨hb1,d0,d1,d2,d3,d4,d5,d6,d7,d8,d9,d10⟩:=(HC.out.ext (X1.out.trans hx)).cells (by have:=HN.out; omega) hxx
    have hld:=HLD.out k hlt
    rw [← hxx] at HS hld
    obtain ⟨P,hP⟩:∃ P,(partsR x.op).1=P:=⟨_,rfl⟩
    obtain ⟨P2,hP2⟩:∃ P,(partsR x.op).2.1=P:=⟨_,rfl⟩
    obtain ⟨P3,hP3⟩:∃ P,(partsR x.op).2.2=P:=⟨_,rfl⟩
    have HPT:Hid (∀ w1,Calls Tryz.prog 103 #[.int .i64 x.op] w1 fun e w'=>e=.returned (.tuple #[.int .i64 P,.int .i64 P2,.int .i64 P3])∧w1=w'):=fun w1=>by
     have h:=parts_any x.op w1
     rwa [hP,hP2,hP3] at h
    rw [hP] at hld
    have HP:=Lib.hid hP
    clear hxx hP hP2 hP3 he ow hx bx
    by_cases h3:P=3
    ·obtain ⟨hd0,hd1⟩:=hld h3
     obtain ⟨dn,hdn⟩:∃ dn:Nat,x.d=dn:=⟨x.d.toNat,by omega⟩
     have HDN:=Lib.hid hdn
     have HP3:Hid (P=3):=h3
     have hq3:(P == 3)=true:=by rw [h3]; rfl
     have hdn2:dn < 6000:=by omega
     rw [hdn] at d1
     clear hld hd0 hd1 hdn h3
     by_cases hgt:(i:Int) < (dn:Int)
     ·have HDX:Hid (delX i x={ x with d:=(dn:Int) - 1 }):=by unfold Hid delX; rw [if_pos ⟨by rw [HP.out]; exact HP3.out,by rw [HDN.out]; exact hgt⟩,HDN.out]
      have hw1:IntKind.i64.wrap ((dn:Int) - 1)=(dn:Int) - 1:=IntWalk.i64_in _ (by omega)
      go_wp2_with (first
         | (go_at_call 103; (with_reducible refine (HPT.out _).mono ?_); rintro r w' ⟨rfl,rfl⟩)
         | (at_builtin
            refine wpList_append_rg rfl _ _ rfl w1.heap.size _ (delK f.code i k) { x with d:=(dn:Int) - 1 } rfl (own_ext (own_ext OW.out ((Ext.refl _).alloc _)) ((Ext.refl _).alloc _)) _ rfl (Blk.newer (by simp) rfl) (by omega) (by have:=HX.out.size; (try simp); omega) ?_
            intro v' w6 ow6 g6
            have OW6:=Lib.hid ow6
            have X6:=Lib.hid ((((HX.out.alloc _).alloc _)).grown g6 (own_row OW.out))
            clear ow6 g6))
      case roundEnd=>exact ⟨⟨k + 1,by omega,by go_num,by rw [HS.out,if_neg HNE.out,HDX.out]; exact OW6.out,X6.out⟩,by simp [intOf]; omega⟩
     ·have HDX:Hid (delX i x={ x with d:=(dn:Int) }):=by unfold Hid delX; rw [if_neg (fun h=>hgt (by rw [← HDN.out]; exact h.2)),← HDN.out]
      go_wp2_with (first
         | (go_at_call 103; (with_reducible refine (HPT.out _).mono ?_); rintro r w' ⟨rfl,rfl⟩)
         | (at_builtin
            refine wpList_append_rg rfl _ _ rfl w1.heap.size _ (delK f.code i k) { x with d:=(dn:Int) } rfl (own_ext (own_ext OW.out ((Ext.refl _).alloc _)) ((Ext.refl _).alloc _)) _ rfl (Blk.newer (by simp) rfl) (by omega) (by have:=HX.out.size; (try simp); omega) ?_
            intro v' w6 ow6 g6
            have OW6:=Lib.hid ow6
            have X6:=Lib.hid ((((HX.out.alloc _).alloc _)).grown g6 (own_row OW.out))
            clear ow6 g6))
      case roundEnd=>exact ⟨⟨k + 1,by omega,by go_num,by rw [HS.out,if_neg HNE.out,HDX.out]; exact OW6.out,X6.out⟩,by simp [intOf]; omega⟩
    ·have hq3:(P == 3)=false:=by simpa using h3
     have HDX:Hid (delX i x=x):=by unfold Hid delX; rw [if_neg (fun h=>h3 (by rw [← HP.out]; exact h.1))]
     clear hld
     go_wp2_with (first
         | (go_at_call 103; (with_reducible refine (HPT.out _).mono ?_); rintro r w' ⟨rfl,rfl⟩)
         | (at_builtin
            refine wpList_append_rg rfl _ _ rfl w1.heap.size _ (delK f.code i k) x rfl (own_ext (own_ext OW.out ((Ext.refl _).alloc _)) ((Ext.refl _).alloc _)) _ rfl (Blk.newer (by simp) rfl) (by omega) (by have:=HX.out.size; (try simp); omega) ?_
            intro v' w6 ow6 g6
            have OW6:=Lib.hid ow6
            have X6:=Lib.hid ((((HX.out.alloc _).alloc _)).grown g6 (own_row OW.out))
            clear ow6 g6))
     case roundEnd=>exact ⟨⟨k + 1,by omega,by go_num,by rw [HS.out,if_neg HNE.out,HDX.out]; exact OW6.out,X6.out⟩,by simp [intOf]; omega⟩
  ·obtain rfl:k=n:=by omega
   have c0:=bx.cell 0
   have c1:=bx.cell 1
   have c2:=bx.cell 2
   have c3:=bx.cell 3
   have c4:=bx.cell 4
   have c5:=bx.cell 5
   have c6:=bx.cell 6
   have c7:=bx.cell 7
   have f8:=bx.frozen 8
   have br:=BR.out.ext hx
   have BRR:=Lib.hid br
   have zr:=br.lt
   simp only [List.getElem?_toArray,List.getElem?_cons_zero,List.getElem?_cons_succ] at c0 c1 c2 c3 c4 c5 c6 c7
   obtain ⟨A9,c9,hv9,h9⟩:=own_rec_at ow
   subst hv9
   have OW:=Lib.hid ow
   obtain ⟨n9,hn9⟩:∃ n9,n9=(delK f.code i k).length:=⟨_,rfl⟩
   rw [← hn9]
   have HN9:=Lib.hid hn9
   clear ow hx bx br h9 hn9
   go_wp2_with (first
    | ((with_reducible show wpList _ _ _ (Oper.mk none (.store 59 (.tmp 4) (.tmp 51)) _ _ _ _ :: _) _ _)
       refine wpList_store_row rfl 59 _ _ rfl (w.heap.size + 1) rfl 59 #[.string ⟨#[]⟩,.int .i64 0,.int .i64 0,.int .i64 0,.int .i64 0,.string ⟨#[]⟩,.bool false,.bool false,.slice none 0 0] #[.string f.name,.int .i64 f.params,.int .i64 f.regs,.int .i64 f.ty.base,.int .i64 f.ty.bits,.string f.ty.name,.bool f.ty.opt,.bool f.ty.err,.slice A9 n9 c9] (BRR.out.far (by simp) _) rfl rfl ?_ HZ.out ?_
       ·intro v hv
        simp at hv
        rcases hv with rfl | rfl | rfl | rfl | rfl | rfl | rfl | rfl | rfl <;> rfl))
   refine bodyPost_ret (results_cell_row rfl _ _ (w.heap.size + 1) 59 #[.string f.name,.int .i64 f.params,.int .i64 f.regs,.int .i64 f.ty.base,.int .i64 f.ty.bits,.string f.ty.name,.bool f.ty.opt,.bool f.ty.err,.slice A9 n9 c9] (0,0) _ rfl ((BRR.out.far (by simp) _).row _) Tryz.underlying59 rfl HZ.out) rfl ⟨A9,n9,c9,rfl,?_,?_,?_⟩
   ·rw [HN9.out,HN.out,delK_all]
   ·have h:=own_keep OW.out (w':=World.setRow (World.setCell wr ⟨w.heap.size,8,none⟩ (.slice A9 n9 c9)) (w.heap.size + 1) #[.string f.name,.int .i64 f.params,.int .i64 f.regs,.int .i64 f.ty.base,.int .i64 f.ty.bits,.string f.ty.name,.bool f.ty.opt,.bool f.ty.err,.slice A9 n9 c9]) (fun g hg=>by
     have h4:=HLO.out.2.2.2
     exact (setRow_other _ _ _ _ (by omega)).trans (Below.heap_setCell _ _ _ _ (by show g ≠ w.heap.size; omega)))
    obtain ⟨A',c',e',h'⟩:=own_rec_at h
    cases e'
    rw [HN.out,delK_all] at h'
    refine ⟨h',fun y hy=>?_⟩
    obtain ⟨z,hz,rfl⟩:=List.mem_map.1 (show y ∈ (f.code.eraseIdx i).map (delX i) from hy)
    rw [(delX_op i z).2.2.2.2.2,delX_A]
    exact (HC.out.sub z (List.mem_of_mem_eraseIdx hz)).ext (((X1.out.trans HX.out).setCell (by simp) _).setRow (by simp) _)
   ·exact ((X1.out.trans HX.out).setCell (by simp) _).setRow (by simp) _
end Go.Proofs.YtknaemlnhediaaaGreatDoor.c
