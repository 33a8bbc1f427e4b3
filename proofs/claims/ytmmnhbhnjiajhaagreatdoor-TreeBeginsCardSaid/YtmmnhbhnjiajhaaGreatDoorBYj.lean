/- lex.Join at tokens that are ones by themselves: a contract. Condition: there is one at least, and none is long. -/
import Derived.Test.YtmmnhbhnjiajhaaGreatDoorBYi
import Derived.Test.YtmmnhbhnjiajhaaGreatDoorBTq
import Derived.Lib.Join
namespace Go.Proofs.YtmmnhbhnjiajhaaGreatDoor.c
open Go.RowKit
set_option linter.unusedVariables false
set_option maxRecDepth 100000
set_option maxHeartbeats 3200000
set_option linter.unusedSimpArgs false
theorem joinS_eq:∀ l:List Tok,joinS l=Lib.join (l.map fun x=>x.text.data.toList) [32]
 | []=>rfl
 | [x]=>(Lib.join_one _ _).symm
 | x :: y :: r=>by
  rw [joinS,joinS_eq (y :: r),List.map_cons,List.map_cons,Lib.join_cons,Lib.join_cons]
  simp [Lib.joinTail]
theorem joinS_len:∀ l:List Tok,(∀ x ∈ l,x.text.size ≤ 4000) → (joinS l).length ≤ l.length * 4001
 | [],_=>Nat.le_refl _
 | [x],h=>by
  have:=h x (List.mem_cons_self ..)
  rw [Lib.size_eq] at this
  simp only [joinS,List.length_cons,List.length_nil]
  omega
 | x :: y :: r,h=>by
  have h1:=h x (List.mem_cons_self ..)
  have h2:=joinS_len (y :: r) fun z hz=>h z (List.mem_cons_of_mem _ hz)
  rw [Lib.size_eq] at h1
  simp only [joinS,List.length_append,List.length_cons] at h2 ⊢
  omega
theorem infoTxt:(Tryz.prog.info? 9).map (fun i=>(i.zero,i.size,i.bytes))=some (some (.string ⟨#[]⟩),1,16):=by kernel_rfl
theorem fill_tx (s:ByteArray):Instr.fill (fun i=>some (i * 1,1)) ((Array.range (1 * 1)).map ((Value.string ⟨#[]⟩).cells[· % (Value.string ⟨#[]⟩).cells.size]!)) [(0,.string s)]=some #[.string s]:=by kernel_rfl
theorem wpList_bsT {ops:Array Oper} {rest:List Oper} {o:Oper} {a:Act} {Q:Exit → Act → World → Prop} {w:World} (hgd:o.guard=none) (x:Operand) (ho:o.op=.buildSlice 60 1 #[(0,x)]) (s:ByteArray) (hx:a.eval x=.string s)
  (h:wpList Tryz.prog ops Q rest (a.put o.dst (.slice (some ⟨w.heap.size,0,none⟩) 1 1)) (w.alloc (.cells #[.string s] 9))):wpList Tryz.prog ops Q (o :: rest) a w:=by
 refine wpList_plain hgd fun K hK=>?_
 obtain ⟨i0,hi0,hz0,hz1,hz2⟩:=info_parts infoTxt
 refine wp_buildSlice _ 9 1 _ ho _ i0 _ Tryz.underlying60 hi0 hz0 (by rw [hz1]; decide) (by rw [hz1]; decide) ?_ (hK _ _ h)
 rw [hz1,show (#[(0,x)].map fun (i,x)=>(i,a.eval x)).toList=[(0,.string s)] by simp [hx]]
 exact fill_tx s
def zTk:Array Value:=#[.int .i64 0,.int .i64 0,.string ⟨#[]⟩]
structure JnS (w:World) (L:List Tok) (v:Value) (i:Nat) (wr:World):Prop where
 ext:Ext w wr
 own:wr.ownsRow w.heap.size 9 1 v i ((L.take i).map fun x=>.string x.text)
theorem JnS.to {w wr w2:World} {L:List Tok} {v:Value} {i:Nat} (h:JnS w L v i wr) (y:Ext wr w2):JnS w L v i w2:=⟨h.ext.trans y,own_ext h.own y⟩
theorem join_any (L:List Tok) (hT:∀ x ∈ L,TK x) (hs:∀ x ∈ L,x.text.size ≤ 4000) (h0:0 < L.length) (hl:L.length ≤ 1000) (w:World) (A:Option Addr) (cap:Nat) (hA:TokAt w A L) :
  Calls Tryz.prog 16 #[.slice A L.length cap] w fun e w'=>e=.returned (.tuple #[.string ⟨(joinS L).toArray⟩,.int .i64 0])∧Ext w w':=by
 have HZ:Hid ((Tryz.prog.info? 84).map (·.size)=some 3):=by unfold Hid; kernel_rfl
 obtain ⟨b,o,rfl,hb,hc⟩:=hA h0
 have S0:Hid (JnS w L sl0 0 w):=⟨Ext.refl w,by simp,.inl ⟨rfl,rfl⟩⟩
 have HC:=Lib.hid hc
 have HT:=Lib.hid hT
 have HS:=Lib.hid hs
 have HJ:Hid ((joinS L).length ≤ 140737488355328):=by have:=joinS_len L hs; unfold Hid; omega
 generalize hN:L.length=N at *
 have HN:=Lib.hid hN
 clear hc hT hs hA hN
 go_enter Tryz.func16,Tryz.ntmps16
 go_wp2_with fail
 go_loopw [4,9] (fun v u wr=>∃ i:Nat,u=.int .i64 i∧i ≤ N∧Hid (JnS w L v i wr)) (fun _ u _=>N - (intOf u).toNat)
 case atStart=>exact ⟨0,rfl,Nat.zero_le _,S0⟩
 case round =>
  clear S0
  obtain ⟨i,rfl,hiN,S⟩:=hrel
  by_cases hlt:i < N
  ·have hltI:(i:Int) < (N:Int):=by omega
   have hwi:wrap64 ((i:Int) + 1)=(i:Int) + 1:=IntWalk.wrap64_in _ (by omega)
   obtain ⟨x,hx⟩:∃ x,L.getD i default=x:=⟨_,rfl⟩
   have hxm:x ∈ L:=by rw [← hx,List.getD,List.getElem?_eq_getElem (by rw [HN.out]; exact hlt)]; exact List.getElem_mem _
   have hcells:∀ j v,(tokA x).toList[j]?=some v → wr.cell? ⟨b,o + i * 3 + j,none⟩=some v:=fun j v hv=>by
    have hj:j < 3:=by have:=(List.getElem?_eq_some_iff.1 hv).1; simpa [tokA] using this
    have h9:=(S.out.ext.cell (p:=⟨b,o + (i * 3 + j),none⟩) hb).trans (HC.out i j hlt hj)
    rw [hx] at h9
    rw [Nat.add_assoc,h9,← hv]
    match j,hj with
    | 0,_ | 1,_ | 2,_=>rfl
   have HCE:=Lib.hid hcells
   have HXT:=Lib.hid (And.intro (HT.out x hxm) (HS.out x hxm))
   have HTK:Hid ((L.take (i + 1)).map (fun x=>Value.string x.text)=(L.take i).map (fun x=>Value.string x.text) ++ [.string x.text]):=by
    have h9:L[i]?=some x:=by rw [← hx,List.getD,List.getElem?_eq_getElem (by rw [HN.out]; exact hlt)]; rfl
    unfold Hid
    rw [List.take_add_one,h9,List.map_append]
    rfl
   clear hcells hx hxm
   go_wp2_with (first
    | ((with_reducible show wpList _ _ _ (Oper.mk (some 12) (.load 84 (.tmp 11)) _ _ _ _ :: _) _ _); refine wpList_load_mid rfl _ _ rfl _ _ rfl (tokA x).toList _ HCE.out Tryz.underlying84 rfl HZ.out ?_; rw [Array.toArray_toList])
    | ((with_reducible show wpList _ _ _ (Oper.mk none (.store 84 (.tmp 6) _) _ _ _ _ :: _) _ _); refine wpList_store_row rfl _ _ _ rfl wr.heap.size rfl 84 zTk (tokA x) (Blk.new wr _ zTk) rfl rfl (by intro u hu; simp only [tokA,List.mem_cons,List.not_mem_nil,or_false] at hu; rcases hu with rfl | rfl | rfl <;> rfl) HZ.out ?_; refine nmW fun w3 hw3=>?_
       have x3:Ext wr w3:=by rw [← hw3]; exact (newRow wr _ zTk (tokA x)).1
       have K3:Hid (Blk w3 wr.heap.size 84 (tokA x)):=by rw [← hw3]; exact (newRow wr _ zTk (tokA x)).2
       clear hw3)
    | ((with_reducible show wpList _ _ _ (Oper.mk (some 13) (.load 84 (.tmp 6)) _ _ _ _ :: _) _ _); refine wpList_ldb rfl _ _ rfl wr.heap.size 84 (tokA x) rfl K3.out _ Tryz.underlying84 rfl HZ.out ?_)
    | (go_at_call 41; refine (isTok_any x HXT.out.1 HXT.out.2 w3).mono ?_; rintro e w4 ⟨rfl,x4⟩; have q2:w4.cell? ⟨wr.heap.size,2,none⟩=some (.string x.text):=(K3.out.ext x4).cell 2)
    | ((with_reducible show wpList _ _ _ (Oper.mk (some 19) (.buildSlice _ _ _) _ _ _ _ :: _) _ _); refine wpList_bsT rfl _ rfl x.text rfl ?_)
    | ((with_reducible show wpList _ _ _ (Oper.mk (some 20) (.call _) _ _ _ _ :: _) _ _)
       have S4:=Lib.hid (S.out.to ((x3.trans x4).alloc (.cells #[.string x.text] 9)))
       refine wpList_app1 Tryz.underlying60 infoTxt rfl (by decide) (by decide) rfl _ _ rfl w.heap.size _ i _ rfl S4.out.own _ _ #[.string x.text] rfl (Blk.new _ _ _) rfl (by intro u hu; simp only [List.mem_cons,List.not_mem_nil,or_false] at hu; subst hu; rfl) (by omega) S4.out.ext.size ?_
       intro v' w' r1 r2 r3))
   have S5:Hid (JnS w L v' (i + 1) w'):=⟨S4.out.ext.grown r2 (fun k hk=>(World.ownsRow.lt S4.out.own k hk).1),by rw [HTK.out]; exact r1⟩
   go_roundw
   case rel=>exact ⟨i + 1,by first | rfl | (rw [hwi]; rfl),hlt,S5⟩
   case measure=>(try rw [hwi]); rw [iof_succ,iof_nat]; exact Nat.sub_lt_sub_left hlt (Nat.lt_succ_self i)
  ·obtain rfl:i=N:=by omega
   have hltI:¬ (i:Int) < (i:Int):=by omega
   have hown:=S.out.own
   rw [List.take_of_length_le (Nat.le_of_eq HN.out)] at hown
   rcases hown.2 with ⟨_,e⟩ | ⟨g,cp,cur,rfl,hgb,hg,hnc,_⟩
   ·omega
   have hcell:∀ j y,(L.map Tok.text)[j]?=some y → wr.cell? ⟨g,0 + j,none⟩=some (.string y):=fun j y hy=>by
    have hj:j < L.length:=by have:=(List.getElem?_eq_some_iff.1 hy).1; simpa using this
    have h9:=hown.cellAt (g:=g) j (by rw [Nat.mul_one,← HN.out]; exact hj)
    rw [Nat.zero_add,h9]
    rw [List.getElem?_map] at hy ⊢
    cases h8:L[j]? with
    | none=>rw [h8] at hy; cases hy
    | some z=>rw [h8] at hy; cases hy; rfl
   have HJN:=Tryz.strings_Join g 0 cp (L.map Tok.text) ⟨#[32]⟩ wr hcell (Blk.lt (t := 9) (cs:=cur) hg) (by rw [List.length_map,HN.out]; omega) (by rw [List.length_map,HN.out]; exact hnc) (by
    have h9:=HJ.out
    rw [joinS_eq] at h9
    rwa [List.map_map])
   rw [List.length_map,HN.out,List.map_map] at HJN
   have HJ2:=Lib.hid HJN
   clear HJN hown hcell
   go_wp2_with (first
    | (go_at_call 42; refine HJ2.out.mono ?_; rintro e w5 ⟨rfl,x5⟩))
   go_ret2
   refine ⟨?_,S.out.ext.trans ⟨x5⟩⟩
   rw [joinS_eq]
   rfl
end Go.Proofs.YtmmnhbhnjiajhaaGreatDoor.c
