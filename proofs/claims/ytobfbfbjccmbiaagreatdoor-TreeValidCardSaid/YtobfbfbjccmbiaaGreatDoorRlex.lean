/- Contracts of the reference's functions on tokens: isLetter, isDigit, run, signs, keys, first, tokens, isToken, IsWord, IsKey. Condition: the text is not longer than 1,048,576 bytes. Contracts of the reference's tokens, isToken and IsWord. Condition: the text is not longer than 1,048,576 bytes. -/
import Derived.Test.YtobfbfbjccmbiaaGreatDoorLex
import Derived.Test.YtobfbfbjccmbiaaGreatDoorLib
namespace Go.Proofs.YtobfbfbjccmbiaaGreatDoor.c
open Go.RowKit
set_option linter.unusedVariables false
set_option maxRecDepth 100000
set_option maxHeartbeats 1600000
set_option linter.unusedSimpArgs false

theorem isLetter_any (c:Nat) (w:World) :
  Calls Tryz.prog 133 #[.int .u8 c] w fun e w'=>e=.returned (.bool (isLet c))∧w=w':=by
 go_enter Tryz.func133,Tryz.ntmps133
 go_wp2
 all_goals (go_ret; exact ⟨ret_bool (by unfold isLet; rw [Bool.eq_iff_iff]; simp; omega),rfl⟩)
theorem isDigit_any (c:Nat) (w:World) :
  Calls Tryz.prog 135 #[.int .u8 c] w fun e w'=>e=.returned (.bool (isDig c))∧w=w':=by
 go_enter Tryz.func135,Tryz.ntmps135
 go_wp2
 all_goals (go_ret; exact ⟨ret_bool (by unfold isDig; rw [Bool.eq_iff_iff]; simp; omega),rfl⟩)
theorem keys_any (w:World) :
  Calls Tryz.prog 71 #[] w fun e w'=>e=.returned (.slice (some ⟨w.heap.size,0,none⟩) 30 30)∧Blk w' w.heap.size 9 (keysB.map Value.string).toArray∧Ext w w':=by
 go_enter Tryz.func71,Tryz.ntmps71
 go_wp2
 go_ret
 exact ⟨rfl,Blk.new _ _ _,(Ext.refl _).alloc _⟩
theorem signs_any (w:World) :
  Calls Tryz.prog 136 #[] w fun e w'=>e=.returned (.slice (some ⟨w.heap.size,0,none⟩) 33 33)∧Blk w' w.heap.size 9 (signsB.map Value.string).toArray∧Ext w w':=by
 go_enter Tryz.func136,Tryz.ntmps136
 go_wp2
 go_ret
 exact ⟨rfl,Blk.new _ _ _,(Ext.refl _).alloc _⟩
theorem refIsKey_any (s:ByteArray) (w:World) :
  Calls Tryz.prog 39 #[.string s] w fun e w'=>e=.returned (.bool (keyS s))∧Ext w w':=by
 go_enter Tryz.func39,Tryz.ntmps39
 go_wp2_with (first | (go_at_call 71; refine (keys_any _).mono ?_; rintro e w1 ⟨rfl,hb,x1⟩))
 have HB:=Lib.hid hb
 clear hb
 go_loopw [4] (fun v wr=>∃ k:Nat,k ≤ 30∧v=.int .i64 k∧wr=w1∧∀ j,j < k → ((keysB.getD j ByteArray.empty).data.toList == s.data.toList)=false) (fun v _=>30 - (intOf v).toNat)
 case atStart=>exact ⟨0,by omega,rfl,rfl,by omega⟩
 case round =>
  obtain ⟨k,hk,rfl,rfl,hno⟩:=hrel
  have HN:=Lib.hid hno
  clear hno
  by_cases hlt:k < 30
  ·obtain ⟨q,hq⟩:∃ q,q=keysB.getD k ByteArray.empty:=⟨_,rfl⟩
   have HQ:=Lib.hid hq
   have hc:wr.cell? ⟨w.heap.size,k,none⟩=some (Value.string q):=by
    rw [HB.out.cell k,hq]
    have:k < keysB.length:=hlt
    simp [List.getD,this]
   clear hq
   have hqm:Hid (q ∈ keysB):=by
    have hl:k < keysB.length:=hlt
    unfold Hid
    rw [HQ.out,List.getD,List.getElem?_eq_getElem hl]
    exact List.getElem_mem hl
   go_wp2_with fail
   case roundEnd =>
    have h1:(q.toList == s.toList)=false:=by assumption
    rw [Lib.toList_data,Lib.toList_data] at h1
    refine ⟨⟨k + 1,by omega,by go_num,by first | rfl | trivial,fun j hj=>?_⟩,by simp [intOf]; omega⟩
    rcases Nat.lt_or_ge j k with h | h
    ·exact HN.out j h
    ·obtain rfl:j=k:=by omega
     rw [← HQ.out]; exact h1
   all_goals
    have h1:(q.toList == s.toList)=true:=by assumption
    rw [Lib.toList_data,Lib.toList_data] at h1
    go_ret
    refine ⟨ret_bool ?_,x1⟩
    symm
    unfold keyS
    rw [List.any_eq_true]
    exact ⟨q,hqm.out,h1⟩
  ·go_wp2_with fail
   go_ret
   refine ⟨ret_bool ?_,x1⟩
   symm
   unfold keyS
   rw [Bool.eq_false_iff]
   intro h
   rw [List.any_eq_true] at h
   obtain ⟨q,hq,he⟩:=h
   obtain ⟨j,hj,rfl⟩:=List.getElem_of_mem hq
   have:=HN.out j (by have:j < 30:=hj; omega)
   rw [List.getD,List.getElem?_eq_getElem hj,Option.getD_some,he] at this
   cases this
theorem refRun_any (s:ByteArray) (at_:Nat) (w:World) (hs:s.size ≤ 4611686018427387904) (ha:at_ ≤ s.size) :
  Calls Tryz.prog 134 #[.string s,.int .i64 at_] w fun e w'=>e=.returned (.int .i64 ((at_ + ((s.data.toList.drop at_).takeWhile okB).length:Nat):Int))∧Ext w w':=by
 have HL:=Lib.hid (Lib.size_eq s)
 go_enter Tryz.func134,Tryz.ntmps134
 go_wp2_with fail
 go_loopw [1] (fun n wr=>∃ k:Nat,at_ + k ≤ s.size∧n=.int .i64 ((at_ + k:Nat):Int)∧((s.data.toList.drop at_).take k).all okB=true∧Ext w wr) (fun n _=>s.size - (intOf n).toNat)
 case atStart=>exact ⟨0,by omega,by go_num,rfl,Ext.refl _⟩
 case round =>
  obtain ⟨k,hk,rfl,hall,hx⟩:=hrel
  have HA:=Lib.hid hall
  clear hall
  obtain ⟨m,hm⟩:∃ m,m=at_ + k:=⟨_,rfl⟩
  rw [← hm] at hk ⊢
  have HM:=Lib.hid hm
  clear hm
  by_cases hlt:m < s.size
  ·have hge:Hid ((s.data.toList.drop at_)[k]?=some (s[m]'hlt)):=by
    unfold Hid
    rw [List.getElem?_drop,← HM.out]
    exact List.getElem?_eq_getElem _
   have HS:Hid (((s.data.toList.drop at_).take (k + 1)).all okB=okB (s[m]'hlt)):=by
    unfold Hid
    rw [List.take_add_one,hge.out]
    simp [HA.out]
   go_wp2_with (first
    | (go_at_call 133; refine (isLetter_any _ _).mono ?_; rintro e w' ⟨rfl,rfl⟩)
    | (go_at_call 135; refine (isDigit_any _ _).mono ?_; rintro e w' ⟨rfl,rfl⟩))
   all_goals
    first
     | (have h1:isLet (s[m]'hlt).toNat=true:=by assumption
        refine ⟨⟨k + 1,by have:=HM.out; omega,by have:=HM.out; go_num,by rw [HS.out]; unfold okB; rw [h1]; rfl,hx⟩,by simp [intOf]; omega⟩)
     | (have h1:isDig (s[m]'hlt).toNat=true:=by assumption
        refine ⟨⟨k + 1,by have:=HM.out; omega,by have:=HM.out; go_num,by rw [HS.out]; unfold okB; rw [h1,Bool.or_true],hx⟩,by simp [intOf]; omega⟩)
     | (have h1:isLet (s[m]'hlt).toNat=false:=by assumption
        have h2:isDig (s[m]'hlt).toNat=false:=by assumption
        go_ret
        refine ⟨ret_int ?_,hx⟩
        rw [takeWhile_len okB _ k (by rw [List.length_drop]; have:=HL.out; have:=HM.out; omega) HA.out (fun c hc=>by rw [hge.out] at hc; injection hc with hc; rw [← hc]; unfold okB; rw [h1,h2]; rfl)]
        have:=HM.out
        omega)
  ·go_wp2_with fail
   go_ret
   refine ⟨ret_int ?_,hx⟩
   rw [takeWhile_len okB _ k (by rw [List.length_drop]; have:=HL.out; have:=HM.out; omega) HA.out (fun c hc=>by rw [List.getElem?_eq_none (by rw [List.length_drop]; have:=HL.out; have:=HM.out; omega)] at hc; cases hc)]
   have:=HM.out
   omega

/-! ### first -/
def mt (L:List UInt8) (a:Nat) (g:List UInt8):Bool:=decide (a + g.length ≤ L.length) && ((L.drop a).take g.length == g)
def fst3 (L:List UInt8) (a:Nat):Int × Nat × Bool :=
 match L[a]? with
 | none=>(0,0,false)
 | some c =>
  if isLet c.toNat then (0,a + ((L.drop a).takeWhile okB).length,true)
  else if isDig c.toNat then (1,a + ((L.drop a).takeWhile okB).length,true)
  else if c.toNat=64 then
   match L[a + 1]? with
   | none=>(0,0,false)
   | some d=>if isLet d.toNat then (3,a + 1 + ((L.drop (a + 1)).takeWhile okB).length,true) else (0,0,false)
  else match signsB.find? (fun g=>mt L a g.data.toList) with
   | none=>(0,0,false)
   | some g=>(2,a + g.size,true)
theorem ret_fst {x:Int × Nat × Bool} {a b:Int} {c:Bool} (h:x.1=a∧(x.2.1:Int)=b∧x.2.2=c):Ending.returned (.tuple #[.int .i64 a,.int .i64 b,.bool c])=.returned (.tuple #[.int .i64 x.1,.int .i64 x.2.1,.bool x.2.2]):=by
 rw [← h.1,← h.2.1,← h.2.2]

theorem first_any (s:ByteArray) (a:Nat) (w:World) (hs:s.size ≤ 4611686018427387904) (ha:a < s.size) :
  Calls Tryz.prog 95 #[.string s,.int .i64 a] w fun e w'=>e=.returned (.tuple #[.int .i64 (fst3 s.data.toList a).1,.int .i64 (fst3 s.data.toList a).2.1,.bool (fst3 s.data.toList a).2.2])∧Ext w w':=by
 have hL:=Lib.size_eq s
 have HG:Hid (s.data.toList[a]?=some (s[a]'ha)):=List.getElem?_eq_getElem (by omega)
 have HL:=Lib.hid hL
 clear hL
 cases h1:isLet (s[a]'ha).toNat
 case true =>
  have HF:Hid (fst3 s.data.toList a=(0,a + ((s.data.toList.drop a).takeWhile okB).length,true)):=by
   unfold Hid fst3; rw [HG.out]; simp only [h1,if_true]
  go_enter Tryz.func95,Tryz.ntmps95
  go_wp2_with (first
   | (go_at_call 133; refine (isLetter_any _ _).mono ?_; rw [h1]; rintro e w' ⟨rfl,rfl⟩)
   | (go_at_call 134; refine (refRun_any s a _ hs (by omega)).mono ?_; rintro e w1 ⟨rfl,x1⟩))
  go_ret3
  exact ⟨ret_fst (by rw [HF.out]; exact ⟨rfl,rfl,rfl⟩),x1⟩
 case false =>
  cases h2:isDig (s[a]'ha).toNat
  case true =>
   have HF:Hid (fst3 s.data.toList a=(1,a + ((s.data.toList.drop a).takeWhile okB).length,true)):=by
    unfold Hid fst3; rw [HG.out]; simp [h1,h2]
   go_enter Tryz.func95,Tryz.ntmps95
   go_wp2_with (first
    | (go_at_call 133; refine (isLetter_any _ _).mono ?_; rw [h1]; rintro e w' ⟨rfl,rfl⟩)
    | (go_at_call 135; refine (isDigit_any _ _).mono ?_; rw [h2]; rintro e w' ⟨rfl,rfl⟩)
    | (go_at_call 134; refine (refRun_any s a _ hs (by omega)).mono ?_; rintro e w1 ⟨rfl,x1⟩))
   go_ret3
   exact ⟨ret_fst (by rw [HF.out]; exact ⟨rfl,rfl,rfl⟩),x1⟩
  case false =>
   by_cases h3:(s[a]'ha).toNat=64
   ·by_cases h4:a + 1 < s.size
    ·have HG2:Hid (s.data.toList[a + 1]?=some (s[a + 1]'h4)):=List.getElem?_eq_getElem (by have:=HL.out; omega)
     cases h5:isLet (s[a + 1]'h4).toNat
     all_goals
      have HF:=Lib.hid (show fst3 s.data.toList a=if isLet (s[a + 1]'h4).toNat then (3,a + 1 + ((s.data.toList.drop (a + 1)).takeWhile okB).length,true) else (0,0,false) by
       unfold fst3; rw [HG.out]; simp only []; rw [if_neg (by rw [h1]; decide),if_neg (by rw [h2]; decide),if_pos h3,HG2.out])
      have h3':(((s[a]'ha).toNat:Int) == 64)=true:=by rw [h3]; rfl
      clear h3
      have h4':(a:Int) + 1 < (s.size:Int):=by omega
      go_enter Tryz.func95,Tryz.ntmps95
      go_wp2_with (first
       | (go_at_call 133; (with_reducible refine (isLetter_any (s[a]'ha).toNat _).mono ?_); rw [h1]; rintro e w' ⟨rfl,rfl⟩)
       | (go_at_call 133; (with_reducible refine (isLetter_any (s[a + 1]'h4).toNat _).mono ?_); rw [h5]; rintro e w' ⟨rfl,rfl⟩)
       | (go_at_call 135; refine (isDigit_any _ _).mono ?_; rw [h2]; rintro e w' ⟨rfl,rfl⟩)
       | (go_at_call 134; refine (refRun_any s (a + 1) _ hs (by omega)).mono ?_; rintro e w1 ⟨rfl,x1⟩))
      go_ret3
      refine ⟨ret_fst (by rw [HF.out,h5]; exact ⟨rfl,rfl,rfl⟩),exO⟩
    ·have HF:=Lib.hid (show fst3 s.data.toList a=(0,0,false) by
       unfold fst3; rw [HG.out]; simp only []; rw [if_neg (by rw [h1]; decide),if_neg (by rw [h2]; decide),if_pos h3,List.getElem?_eq_none (by have:=HL.out; omega)])
     have h3':(((s[a]'ha).toNat:Int) == 64)=true:=by rw [h3]; rfl
     clear h3
     have h4':¬ (a:Int) + 1 < (s.size:Int):=by omega
     go_enter Tryz.func95,Tryz.ntmps95
     go_wp2_with (first
      | (go_at_call 133; (with_reducible refine (isLetter_any (s[a]'ha).toNat _).mono ?_); rw [h1]; rintro e w' ⟨rfl,rfl⟩)
      | (go_at_call 135; refine (isDigit_any _ _).mono ?_; rw [h2]; rintro e w' ⟨rfl,rfl⟩))
     go_ret3
     refine ⟨ret_fst (by rw [HF.out]; exact ⟨rfl,rfl,rfl⟩),exO⟩
   ·have h3':(((s[a]'ha).toNat:Int) == 64)=false:=by rw [beq_eq_false_iff_ne]; omega
    have HF:=Lib.hid (show fst3 s.data.toList a=match signsB.find? (fun g=>mt s.data.toList a g.data.toList) with
      | none=>(0,0,false)
      | some g=>(2,a + g.size,true) by
     unfold fst3; rw [HG.out]; simp only []; rw [if_neg (by rw [h1]; decide),if_neg (by rw [h2]; decide),if_neg h3])
    clear h3
    go_enter Tryz.func95,Tryz.ntmps95
    go_wp2_with (first
     | (go_at_call 133; (with_reducible refine (isLetter_any (s[a]'ha).toNat _).mono ?_); rw [h1]; rintro e w' ⟨rfl,rfl⟩)
     | (go_at_call 135; refine (isDigit_any _ _).mono ?_; rw [h2]; rintro e w' ⟨rfl,rfl⟩)
     | (go_at_call 136; refine (signs_any _).mono ?_; rintro e w1 ⟨rfl,hb,x1⟩; have HB:=Lib.hid hb; clear hb))
    go_loopw [9] (fun v wr=>∃ k:Nat,k ≤ 33∧v=.int .i64 k∧Ext w1 wr∧∀ j,j < k → mt s.data.toList a (signsB.getD j ByteArray.empty).data.toList=false) (fun v _=>33 - (intOf v).toNat)
    case atStart=>exact ⟨0,by omega,rfl,Ext.refl _,by omega⟩
    case round =>
     obtain ⟨k,hk,rfl,hx,hno⟩:=hrel
     have HN:=Lib.hid hno
     clear hno
     by_cases hlt:k < 33
     ·obtain ⟨q,hq⟩:∃ q,q=signsB.getD k ByteArray.empty:=⟨_,rfl⟩
      have HQ:=Lib.hid hq
      have hlk:k < signsB.length:=hlt
      have hc:wr.cell? ⟨w.heap.size,k,none⟩=some (Value.string q):=by
       rw [(HB.out.ext hx).cell k,hq]
       simp [List.getD,hlk]
      have hqz:q.size ≤ 2:=by
       have:∀ g ∈ signsB,g.size ≤ 2:=by decide +kernel
       refine this q ?_
       rw [hq,List.getD,List.getElem?_eq_getElem hlk]
       exact List.getElem_mem hlk
      have HSZ:=Lib.hid (Lib.size_eq q)
      clear hq
      by_cases he:a + q.size ≤ s.size
      ·have he':(a:Int) + (q.size:Int) ≤ (s.size:Int):=by omega
       have he2:decide ((a:Int) + (q.size:Int) ≤ (s.size:Int))=true:=by simpa using he'
       have HM:=Lib.hid (show mt s.data.toList a q.data.toList=((s.extract a (a + q.size)).toList == q.toList) by
        unfold mt
        rw [Lib.extract_toList,Lib.toList_data,← HSZ.out,← HL.out,decide_eq_true he,Bool.true_and,Nat.add_sub_cancel_left])
       go_wp2_with fail
       go_quiet (fail)
       go_wp2_with fail
       case roundEnd =>
        have h9:((s.extract a (a + q.size)).toList == q.toList)=false:=by assumption
        refine ⟨⟨k + 1,by omega,by go_num,hx.drewN _,fun j hj=>?_⟩,by simp [intOf]; omega⟩
        rcases Nat.lt_or_ge j k with h | h
        ·exact HN.out j h
        ·obtain rfl:j=k:=by omega
         rw [← HQ.out,HM.out]; exact h9
       all_goals
        have h9:((s.extract a (a + q.size)).toList == q.toList)=true:=by assumption
        go_ret3
        refine ⟨ret_fst ?_,(x1.trans hx).drewN _⟩
        rw [HF.out,find_hit (d:=ByteArray.empty) hlk (by rw [← HQ.out,HM.out]; exact h9) HN.out,← HQ.out]
        exact ⟨rfl,rfl,rfl⟩
      ·have he':¬ (a:Int) + (q.size:Int) ≤ (s.size:Int):=by omega
       have he2:decide ((a:Int) + (q.size:Int) ≤ (s.size:Int))=false:=by simpa using he'
       have HM:=Lib.hid (show mt s.data.toList a q.data.toList=false by
        unfold mt
        rw [← HSZ.out,← HL.out,decide_eq_false he,Bool.false_and])
       go_wp2_with fail
       go_quiet (fail)
       go_wp2_with fail
       refine ⟨⟨k + 1,by omega,by go_num,hx.drewN _,fun j hj=>?_⟩,by simp [intOf]; omega⟩
       rcases Nat.lt_or_ge j k with h | h
       ·exact HN.out j h
       ·obtain rfl:j=k:=by omega
        rw [← HQ.out,HM.out]
     ·go_wp2_with fail
      go_ret3
      refine ⟨ret_fst ?_,x1.trans hx⟩
      rw [HF.out,find_miss (d:=ByteArray.empty) (fun j hj=>HN.out j (by have:j < 33:=hj; omega))]
      exact ⟨rfl,rfl,rfl⟩

structure Tok where
 kind:Int
 at_:Nat
 text:ByteArray
def Tok.cells (t:Tok):List Value:=[.int .i64 t.kind,.int .i64 t.at_,.string t.text]
def blank (c:Nat):Bool:=c == 32 || c == 10
theorem fst3_gt {L:List UInt8} {a:Nat} (h:(fst3 L a).2.2=true):a < (fst3 L a).2.1∧(fst3 L a).2.1 ≤ L.length:=by
 unfold fst3 at h ⊢
 cases hc:L[a]? with
 | none=>rw [hc] at h; cases h
 | some c =>
  obtain ⟨hlt,hce⟩:=List.getElem?_eq_some_iff.1 hc
  rw [hc] at h
  simp only [] at h ⊢
  have htw:∀ b,((L.drop b).takeWhile okB).length ≤ L.length - b:=fun b=>by
   have:=(List.takeWhile_prefix okB (l:=L.drop b)).length_le
   rwa [List.length_drop] at this
  have hpos:∀ b (d:UInt8),L[b]?=some d → okB d=true → 0 < ((L.drop b).takeWhile okB).length:=fun b d hd ho=>by
   obtain ⟨hb,he⟩:=List.getElem?_eq_some_iff.1 hd
   rw [List.drop_eq_getElem_cons hb,he]
   simp [ho]
  by_cases h1:isLet c.toNat=true
  ·rw [if_pos h1] at h ⊢
   have:=hpos a c hc (by unfold okB; rw [h1]; rfl)
   have:=htw a
   simp only []
   omega
  ·rw [if_neg h1] at h ⊢
   by_cases h2:isDig c.toNat=true
   ·rw [if_pos h2] at h ⊢
    have:=hpos a c hc (by unfold okB; rw [h2,Bool.or_true])
    have:=htw a
    simp only []
    omega
   ·rw [if_neg h2] at h ⊢
    by_cases h3:c.toNat=64
    ·rw [if_pos h3] at h ⊢
     cases hd:L[a + 1]? with
     | none=>rw [hd] at h; cases h
     | some d =>
      rw [hd] at h
      simp only [] at h ⊢
      by_cases h4:isLet d.toNat=true
      ·rw [if_pos h4] at h ⊢
       have:=hpos (a + 1) d hd (by unfold okB; rw [h4]; rfl)
       have:=htw (a + 1)
       obtain ⟨h5,_⟩:=List.getElem?_eq_some_iff.1 hd
       simp only []
       omega
      ·rw [if_neg h4] at h; cases h
    ·rw [if_neg h3] at h ⊢
     cases hf:signsB.find? (fun g=>mt L a g.data.toList) with
     | none=>rw [hf] at h; cases h
     | some g =>
      have hm:=List.find?_some hf
      have hg:∀ g ∈ signsB,0 < g.size:=by decide +kernel
      have:=hg g (List.mem_of_find?_eq_some hf)
      unfold mt at hm
      simp only [Bool.and_eq_true,decide_eq_true_eq,← Lib.size_eq] at hm
      simp only []
      omega
def toks (s:ByteArray) (a:Nat) (acc:List Tok):List Tok × Nat × Bool :=
 if h:a < s.size then
  if blank (s[a]'h).toNat then toks s (a + 1) acc
  else
   match hf:(fst3 s.data.toList a).2.2 with
   | false=>([],a,false)
   | true=>toks s (fst3 s.data.toList a).2.1 (acc ++ [⟨(fst3 s.data.toList a).1,a,s.extract a (fst3 s.data.toList a).2.1⟩])
 else (acc,0,true)
termination_by s.size - a
decreasing_by
 ·omega
 ·have:=(fst3_gt hf).1; omega
theorem toks_end {s:ByteArray} {a:Nat} {acc:List Tok} (h:¬ a < s.size):toks s a acc=(acc,0,true):=by rw [toks,dif_neg h]
theorem toks_blank {s:ByteArray} {a:Nat} {acc:List Tok} (h:a < s.size) (hb:blank (s[a]'h).toNat=true):toks s a acc=toks s (a + 1) acc:=by rw [toks,dif_pos h,if_pos hb]
theorem toks_no {s:ByteArray} {a:Nat} {acc:List Tok} (h:a < s.size) (hb:blank (s[a]'h).toNat=false) (hf:(fst3 s.data.toList a).2.2=false):toks s a acc=([],a,false):=by
 rw [toks,dif_pos h,if_neg (by rw [hb]; decide)]
 split
 ·rfl
 ·rename_i h1; rw [hf] at h1; cases h1
theorem toks_yes {s:ByteArray} {a:Nat} {acc:List Tok} (h:a < s.size) (hb:blank (s[a]'h).toNat=false) (hf:(fst3 s.data.toList a).2.2=true) :
  toks s a acc=toks s (fst3 s.data.toList a).2.1 (acc ++ [⟨(fst3 s.data.toList a).1,a,s.extract a (fst3 s.data.toList a).2.1⟩]):=by
 rw [toks,dif_pos h,if_neg (by rw [hb]; decide)]
 split
 ·rename_i h1; rw [hf] at h1; cases h1
 ·rfl

theorem Tryz.infoTok:(Tryz.prog.info? 76).map (fun i=>(i.zero,i.size,i.bytes))=some (some (.agg #[.int .i64 0,.int .i64 0,.string ⟨#[]⟩]),3,32):=by kernel_rfl

theorem tokens_any (s:ByteArray) (w:World) (hs:s.size ≤ 1048576) :
  Calls Tryz.prog 47 #[.string s] w fun e w'=>∃ v,e=.returned (.tuple #[v,.int .i64 (toks s 0 []).2.1,.bool (toks s 0 []).2.2]) ∧
   w'.ownsRow w.heap.size 76 3 v (toks s 0 []).1.length ((toks s 0 []).1.flatMap Tok.cells)∧Ext w w':=by
 obtain ⟨i0,hi0,hz0,hz1,hz2⟩:=info_parts Tryz.infoTok
 have HI:=Lib.hid hi0; have HZ0:=Lib.hid hz0; have HZ1:=Lib.hid hz1; have HZ2:=Lib.hid hz2
 clear hi0 hz0 hz1 hz2
 have HL:=Lib.hid (Lib.size_eq s)
 go_enter Tryz.func47,Tryz.ntmps47
 go_wp2_with fail
 go_loopw [5,6] (fun v u wr=>∃ (a:Nat) (acc:List Tok),a ≤ s.size∧u=.int .i64 a∧acc.length ≤ a∧wr.ownsRow w.heap.size 76 3 v acc.length (acc.flatMap Tok.cells)∧toks s a acc=toks s 0 []∧Ext w wr) (fun _ u _=>s.size - (intOf u).toNat)
 case atStart=>exact ⟨0,[],by omega,rfl,by simp,World.ownsRow_nil _ _ _ _,rfl,Ext.refl _⟩
 case round =>
  obtain ⟨a,acc,ha,rfl,hal,hown,ht,hx⟩:=hrel
  have HT:=Lib.hid ht
  clear ht
  by_cases hlt:a < s.size
  ·cases hb:blank (s[a]'hlt).toNat
   case true =>
    have HE:=Lib.hid (toks_blank (acc:=acc) hlt hb)
    have hb2:(((s[a]'hlt).toNat:Int) == 32)=true ∨ ((((s[a]'hlt).toNat:Int) == 32)=false∧(((s[a]'hlt).toNat:Int) == 10)=true):=by
     have:(s[a]'hlt).toNat=32 ∨ (s[a]'hlt).toNat=10:=by simpa [blank] using hb
     rcases this with h | h
     ·exact .inl (by rw [h]; rfl)
     ·exact .inr (by rw [h]; exact ⟨rfl,rfl⟩)
    have HO:=Lib.hid hown
    clear hb hown
    rcases hb2 with hb2 | ⟨hb2,hb3⟩
    all_goals
     go_wp2_with fail
     go_roundw
     case rel=>exact ⟨a + 1,acc,by omega,by go_num,by omega,HO.out,by rw [← HE.out,HT.out],hx⟩
     case measure=>simp [intOf]; omega
   case false =>
    have hb2:¬ (s[a]'hlt).toNat=32∧¬ (s[a]'hlt).toNat=10:=by simpa [blank] using hb
    have hb3:(((s[a]'hlt).toNat:Int) == 32)=false:=by rw [beq_eq_false_iff_ne]; omega
    have hb4:(((s[a]'hlt).toNat:Int) == 10)=false:=by rw [beq_eq_false_iff_ne]; omega
    clear hb2
    cases hf:(fst3 s.data.toList a).2.2
    case true =>
     have HE:=Lib.hid (toks_yes (acc:=acc) hlt hb hf)
     obtain ⟨f,hff⟩:∃ f,f=fst3 s.data.toList a:=⟨_,rfl⟩
     have hg:=fst3_gt hf
     rw [← hff] at hg hf
     rw [← HL.out] at hg
     have HFF:=Lib.hid hff
     obtain ⟨f1,f2,f3⟩:=f
     simp only [] at hg hf
     subst hf
     have HO:=Lib.hid hown
     have HBB:=Lib.hid hb
     have hxs:=hx.size
     clear hff hown hb
     have hg1:(a:Int) ≤ f2:=by omega
     have hg2:(f2:Int) ≤ s.size:=by omega
     go_wp2_with (first
      | (go_at_call 95; refine (first_any s a _ (by omega) hlt).mono ?_; rw [← HFF.out]; rintro e w1 ⟨rfl,x1⟩; have O1:=Lib.hid (own_ext HO.out x1))
      | (at_builtin; refine wpList_append_own _ rfl _ _ 37 rfl w.heap.size 76 i0 _ 3 32 Tryz.underlying37 HI.out HZ0.out HZ1.out HZ2.out rfl (by decide) _ _ _ rfl (O1.out.alloc _) ⟨w1.heap.size,0,none⟩ 1 1 [.int .i64 f1,.int .i64 a,.string (s.extract a f2)] rfl rfl ?c1 ?c2 ?c3 ?c4 ?c5 ?_))
     case c1 =>
      intro j u hj
      match j,hj with
      | 0,hj=>simp at hj; subst hj; simp [Addr.add]
      | 1,hj=>simp at hj; subst hj; simp [Addr.add]
      | 2,hj=>simp at hj; subst hj; simp [Addr.add]
     case c2=>intro u hu; simp at hu; rcases hu with rfl | rfl | rfl <;> rfl
     case c3=>unfold maxLen; omega
     case c4=>omega
     case c5=>have:=x1.size; simp; omega
     ·intro v' w2 hown2 hgrow _
      have hx2:=((hx.trans x1).alloc (.cells #[.int .i64 f1,.int .i64 a,.string (s.extract a f2)] 76)).grown hgrow (own_row HO.out)
      have HO2:=Lib.hid hown2
      clear hown2 hgrow
      go_wp2_with fail
      go_roundw
      case rel=>exact ⟨f2,acc ++ [⟨f1,a,s.extract a f2⟩],hg.2,rfl,by simp; omega,by simpa [Tok.cells] using HO2.out,by rw [← HT.out,HE.out,← HFF.out],hx2⟩
      case measure=>simp [intOf]; omega
    case false =>
     have HE:=Lib.hid (toks_no (acc:=acc) hlt hb hf)
     have HO:=Lib.hid hown
     obtain ⟨f,hff⟩:∃ f,f=fst3 s.data.toList a:=⟨_,rfl⟩
     rw [← hff] at hf
     have HFF:=Lib.hid hff
     obtain ⟨f1,f2,f3⟩:=f
     simp only [] at hf
     subst hf
     clear hff hown hb
     go_wp2_with (first
      | (go_at_call 95; refine (first_any s a _ (by omega) hlt).mono ?_; rw [← HFF.out]; rintro e w1 ⟨rfl,x1⟩))
     go_ret3
     refine ⟨_,ret_tup3 (by rw [← HT.out,HE.out]) (by rw [← HT.out,HE.out]),by rw [← HT.out,HE.out]; exact World.ownsRow_nil _ _ _ _,hx.trans x1⟩
  ·have HO:=Lib.hid hown
   have HE:=Lib.hid (toks_end (acc:=acc) hlt)
   clear hown
   go_wp2_with fail
   go_ret3
   refine ⟨_,ret_tup3 (by rw [← HT.out,HE.out]; rfl) (by rw [← HT.out,HE.out]),by rw [← HT.out,HE.out]; exact HO.out,hx⟩

def oneTok (k:Int) (x:List UInt8):List Tok → Bool
 | [t]=>t.kind == k && t.text.data.toList == x
 | _=>false
def isTokS (k:Int) (s:ByteArray):Bool:=(toks s 0 []).2.2 && oneTok k s.data.toList (toks s 0 []).1
theorem isToken_any (k:Int) (s:ByteArray) (w:World) (hs:s.size ≤ 1048576) :
  Calls Tryz.prog 70 #[.int .i64 k,.string s] w fun e w'=>e=.returned (.bool (isTokS k s))∧Ext w w':=by
 obtain ⟨l,hl⟩:∃ l,l=toks s 0 []:=⟨_,rfl⟩
 have HT:=Lib.hid hl
 have HS:Hid (isTokS k s=(l.2.2 && oneTok k s.data.toList l.1)):=by unfold Hid isTokS; rw [← hl]
 clear hl
 obtain ⟨l,a,b⟩:=l
 cases b
 case false =>
  go_enter Tryz.func70,Tryz.ntmps70
  go_wp2_with (first
   | (go_at_call 47; refine (tokens_any s _ hs).mono ?_; rw [← HT.out]; rintro e w1 ⟨v,rfl,hown,x1⟩; obtain ⟨A,cp,rfl,hat⟩:=own_slice hown; clear hown))
  go_ret
  exact ⟨ret_bool HS.out.symm,x1⟩
 case true =>
  match l,HT,HS with
  | [t],HT,HS =>
   go_enter Tryz.func70,Tryz.ntmps70
   go_wp2_with (first
    | (go_at_call 47; refine (tokens_any s _ hs).mono ?_; rw [← HT.out]; rintro e w1 ⟨v,rfl,hown,x1⟩; obtain ⟨A,cp,rfl,hat⟩:=own_slice hown; obtain ⟨b,off,rfl,hb,hc⟩:=hat (by simp); have c0:=hc 0 0 (by simp) (by omega); have c1:=hc 0 2 (by simp) (by omega); simp [Tok.cells] at c0 c1; clear hc hown))
   all_goals
    go_ret
    refine ⟨ret_bool ?_,x1⟩
    rw [HS.out]
    simp only [oneTok,Bool.true_and,← Lib.toList_data]
    simp [*]
  | [],HT,HS =>
   go_enter Tryz.func70,Tryz.ntmps70
   go_wp2_with (first
    | (go_at_call 47; refine (tokens_any s _ hs).mono ?_; rw [← HT.out]; rintro e w1 ⟨v,rfl,hown,x1⟩; obtain ⟨A,cp,rfl,hat⟩:=own_slice hown; clear hown hat; simp only [List.length_nil]))
   go_ret
   exact ⟨ret_bool HS.out.symm,x1⟩
  | t :: t2 :: r,HT,HS =>
   have h1:((((t :: t2 :: r:List Tok).length:Nat):Int) == 1)=false:=by rw [beq_eq_false_iff_ne]; simp only [List.length_cons]; omega
   obtain ⟨n,hn⟩:∃ n,n=(t :: t2 :: r:List Tok).length:=⟨_,rfl⟩
   rw [← hn] at h1
   have HN:=Lib.hid hn
   clear hn
   go_enter Tryz.func70,Tryz.ntmps70
   go_wp2_with (first
    | (go_at_call 47; refine (tokens_any s _ hs).mono ?_; rw [← HT.out]; rintro e w1 ⟨v,rfl,hown,x1⟩; obtain ⟨A,cp,rfl,hat⟩:=own_slice hown; clear hown hat; simp only []; rw [← HN.out]))
   go_ret
   exact ⟨ret_bool HS.out.symm,x1⟩
end Go.Proofs.YtobfbfbjccmbiaaGreatDoor.c
