/- A case's number. -/
import Derived.Test.YtmmnhbhnjiajhaaGreatDoorBTa
import Derived.Deep.CutRange
namespace Go.Proofs.YtmmnhbhnjiajhaaGreatDoor.c
open Go.RowKit
set_option linter.unusedVariables false
set_option maxRecDepth 100000
set_option maxHeartbeats 3200000
set_option linter.unusedSimpArgs false
theorem dw_head {p:UInt8 → Bool}:∀ (l:List UInt8) (c:UInt8) (r:List UInt8),l.dropWhile p=c :: r → p c=false
 | [],c,r,h=>by cases h
 | x :: l,c,r,h=>by
  rw [List.dropWhile_cons] at h
  split at h
  ·exact dw_head l c r h
  ·rename_i hx; cases h; simpa using hx
theorem dw_nil {p:UInt8 → Bool}:∀ (l:List UInt8),l.dropWhile p=[] ↔ l.all p=true
 | []=>by simp
 | x :: l=>by
  rw [List.dropWhile_cons,List.all_cons]
  split
  ·rename_i hx; rw [dw_nil l,hx]; simp
  ·rename_i hx; simp [hx]
theorem trim_nil (l:List UInt8):Lib.trimS l dgL=[] ↔ l.all isDg=true:=by
 have e:(fun c=>dgL.contains c)=isDg:=funext digs_dg
 unfold Lib.trimS
 rw [trim_eq]
 unfold Lib.trimRightS
 rw [e,dw_nil]
 constructor
 ·intro h
  cases e2:l.reverse.dropWhile isDg with
  | nil =>
   have:=(dw_nil l.reverse).1 e2
   simpa using this
  | cons c r =>
   have h1:=dw_head _ _ _ e2
   rw [e2] at h
   have h2:=List.all_eq_true.1 h c (by simp)
   rw [h1] at h2; cases h2
 ·intro h
  rw [(dw_nil l.reverse).2 (by simpa using h)]
  rfl
def OutN (C:Cx) (w:World) (r:Except Nat (Int × Nat)) (e:Ending) (w':World):Prop :=
 (∃ n b,Hid (r=.ok (n,b))∧e=.returned (.int .i64 n)∧Mv C w b w') ∨ ∃ b,Hid (r=.error b)∧e=.panicked (pan b)∧Mv C w b w'
def cnum2 (L:List Tok) (a1:Nat) (m:Bool) (lo:Int):Except Nat (Int × Nat) :=
 if kd_ L a1=1∧digS (tx L a1).data.toList=true∧(tx L a1).data.toList.all isDg=true∧lo ≤ (if m then -(decS (tx L a1).data.toList:Int) else decS (tx L a1).data.toList)∧(if m then -(decS (tx L a1).data.toList:Int) else decS (tx L a1).data.toList) ≤ 2147483648
 then .ok ((if m then -(decS (tx L a1).data.toList:Int) else decS (tx L a1).data.toList),a1 + 1) else .error a1
theorem cnumS_eq {L:List Tok} {a a1:Nat} {m:Bool} {lo:Int} (h1:m=decide (tx L a=⟨#[45]⟩)) (h2:a1=if m=true then a + 1 else a):cnumS L a lo=cnum2 L a1 m lo:=by
 subst h1; subst h2
 rfl
theorem number_any {C:Cx} {a:Nat} {w:World} (h:PS C a w) (lo:Int):Calls Tryz.prog 243 #[Pp C,.int .i64 lo] w (OutN C w (cnumS C.L a lo)):=by
 have hlt:=h.lt
 have HP:=Lib.hid h
 clear h
 go_enter Tryz.func243,Tryz.ntmps243
 go_upto_region 1 with fail
 go_cut [5] from 8 to 9 (fun c wx=>∃ m a1,Hid (m=decide (tx C.L a=⟨#[45]⟩))∧Hid (a1=if m=true then a + 1 else a)∧c=.bool m∧Hid (Mv C w a1 wx))
 case first =>
  go_wp2_with (first
   | (go_at_call 113; refine (next_any HP.out ⟨#[45]⟩ (by decide)).mono ?_; rintro r w2 (⟨hx,rfl,h2⟩ | ⟨hx,rfl,h2⟩)))
  ·go_meet
   exact ⟨true,a + 1,by unfold Hid; simp only [hx,decide_true],by unfold Hid; simp only [if_true],rfl,h2⟩
  ·go_meet
   exact ⟨false,a,by unfold Hid; simp only [hx,decide_false],rfl,rfl,h2⟩
 case rest =>
  obtain ⟨m,a1,hE1,hE2,rfl,hM⟩:=hcut
  have HE:Hid (cnumS C.L a lo=cnum2 C.L a1 m lo):=cnumS_eq hE1.out hE2.out
  clear hE1 hE2
  by_cases hk:kd_ C.L a1=1
  ·have hkb:(kd_ C.L a1 != 1)=false:=by simpa using hk
   obtain ⟨hl1,c0,r0,htx,hc0⟩:=lit_text hk
   have hs0:0 < (tx C.L a1).size:=by rw [Lib.size_eq,htx]; simp
   obtain ⟨s,hs⟩:∃ s,tx C.L a1=s:=⟨_,rfl⟩
   have hsz:s.size ≤ 4000:=by rw [← hs]; exact PS.tx_size
   rw [hs] at hs0
   have HTX:=Lib.hid hs
   have E2:Hid (cnum2 C.L a1 m lo=if digS s.data.toList=true∧s.data.toList.all isDg=true∧lo ≤ (if m then -(decS s.data.toList:Int) else decS s.data.toList)∧(if m then -(decS s.data.toList:Int) else decS s.data.toList) ≤ 2147483648
     then .ok ((if m then -(decS s.data.toList:Int) else decS s.data.toList),a1 + 1) else .error a1):=by
    unfold Hid cnum2; rw [hs]; simp only [hk,true_and]
   clear hs htx hc0
   obtain ⟨dg,hdg⟩:∃ dg,digS s.data.toList=dg:=⟨_,rfl⟩
   have HDG:=Lib.hid hdg
   have hdl:Hid (dg=true → s.size ≤ 10):=fun q=>by rw [Lib.size_eq]; exact dg_len (hdg.trans q)
   clear hdg
   obtain ⟨tl,htl⟩:∃ tl:ByteArray,⟨(Lib.trimS s.data.toList [48,49,50,51,52,53,54,55,56,57]).toArray⟩=tl:=⟨_,rfl⟩
   have HTL:=Lib.hid htl
   clear htl
   cases dg
   ·go_wp2_with (first
     | (go_at_call 119; refine (peek_any hM.out.ps).mono ?_; rw [HTX.out]; rintro r w1 ⟨rfl,x1⟩)
     | (go_at_call 168; refine (kind_any (hM.out.ps.to x1)).mono ?_; rw [hk]; rintro r w2 ⟨rfl,x2⟩)
     | (go_at_call 258; refine (isDigits_any s _ hs0).mono ?_; rw [HDG.out]; rintro r w3 ⟨rfl,rfl⟩)
     | (go_at_call 169; refine (fail_any (hM.out.ps.to (x1.trans x2))).mono ?_; rintro r w4 ⟨rfl,rfl⟩))
    exact And.intro rfl (.inr ⟨a1,by unfold Hid; rw [HE.out,E2.out,HDG.out]; simp,rfl,hM.out.to (x1.trans x2)⟩)
   ·by_cases hal:s.data.toList.all isDg=true
    ·have htn:tl=⟨#[]⟩:=by
      rw [← HTL.out]
      exact congrArg (fun l:List UInt8=>(⟨l.toArray⟩:ByteArray)) ((trim_nil _).2 hal)
     have HAL:=Lib.hid hal
     obtain ⟨d,hd⟩:∃ d,decS s.data.toList=d:=⟨_,rfl⟩
     have HD:=Lib.hid hd
     have hd0:d < 10000000000:=by rw [← hd]; exact decS_small hal (by rw [← Lib.size_eq]; exact hdl.out rfl)
     have hs10:=hdl.out rfl
     clear hal hd
     obtain ⟨n,hn⟩:∃ n:Int,(if m then -(d:Int) else d)=n:=⟨_,rfl⟩
     have E3:Hid (cnum2 C.L a1 m lo=if lo ≤ n∧n ≤ 2147483648 then .ok (n,a1 + 1) else .error a1):=by
      unfold Hid; rw [E2.out,HDG.out,HAL.out,HD.out,hn]; simp only [true_and]
     clear E2
     have hww:=wrap1 hl1
     have hneg:IntKind.i64.wrap (-(d:Int))=-(d:Int):=IntWalk.i64_in _ (by omega)
     subst htn
     cases m
     all_goals
      simp only [if_true,if_false,Bool.false_eq_true] at hn
      subst hn
      go_upto_region 8 with (first
       | (go_at_call 119; refine (peek_any hM.out.ps).mono ?_; rw [HTX.out]; rintro r w1 ⟨rfl,x1⟩)
       | (go_at_call 168; refine (kind_any (hM.out.ps.to x1)).mono ?_; rw [hk]; rintro r w2 ⟨rfl,x2⟩)
       | (go_at_call 258; refine (isDigits_any s _ hs0).mono ?_; rw [HDG.out]; rintro r w3 ⟨rfl,rfl⟩)
       | (go_at_call 261; refine (trim_any s _ hsz).mono ?_; rw [HTL.out]; rintro r w3 ⟨rfl,x3⟩)
       | (go_at_call 259; refine (decimal_any s _ HAL.out hs10).mono ?_; rw [HD.out]; rintro r w5 ⟨rfl,x5⟩; have M5:=Lib.hid (hM.out.to (((x1.trans x2).trans x3).trans x5))))
     ·by_cases c1:(d:Int) < lo
      ·go_wp2_with (first
        | (go_at_call 169; refine (fail_any M5.out.ps).mono ?_; rintro r w6 ⟨rfl,rfl⟩))
       exact And.intro rfl (.inr ⟨a1,by unfold Hid; rw [HE.out,E3.out,if_neg (by omega)],rfl,M5.out⟩)
      ·by_cases c2:(2147483648:Int) < (d:Int)
       ·go_wp2_with (first
         | (go_at_call 169; refine (fail_any M5.out.ps).mono ?_; rintro r w6 ⟨rfl,rfl⟩))
        exact And.intro rfl (.inr ⟨a1,by unfold Hid; rw [HE.out,E3.out,if_neg (by omega)],rfl,M5.out⟩)
       ·obtain ⟨hm6,c60,c61,hf6⟩:=M5.out.ps.facts
        have M7:=Lib.hid (M5.out.trans (M5.out.ps.step hl1))
        go_wp2_with fail
        go_ret
        exact .inl ⟨_,a1 + 1,by unfold Hid; rw [HE.out,E3.out,if_pos (by omega)],rfl,M7.out⟩
     ·by_cases c1:-(d:Int) < lo
      ·go_wp2_with (first
        | (go_at_call 169; refine (fail_any M5.out.ps).mono ?_; rintro r w6 ⟨rfl,rfl⟩))
       exact And.intro rfl (.inr ⟨a1,by unfold Hid; rw [HE.out,E3.out,if_neg (by omega)],rfl,M5.out⟩)
      ·have c2:¬ (2147483648:Int) < -(d:Int):=by omega
       obtain ⟨hm6,c60,c61,hf6⟩:=M5.out.ps.facts
       have M7:=Lib.hid (M5.out.trans (M5.out.ps.step hl1))
       go_wp2_with fail
       go_ret
       exact .inl ⟨_,a1 + 1,by unfold Hid; rw [HE.out,E3.out,if_pos (by omega)],rfl,M7.out⟩
    ·have htn:(tl.toList == [])=false:=by
      refine bs_nl [] fun e=>hal ((trim_nil _).1 ?_)
      have e2:=HTL.out.trans e
      have e3:=congrArg (fun b:ByteArray=>b.data.toList) e2
      exact e3
     go_wp2_with (first
      | (go_at_call 119; refine (peek_any hM.out.ps).mono ?_; rw [HTX.out]; rintro r w1 ⟨rfl,x1⟩)
      | (go_at_call 168; refine (kind_any (hM.out.ps.to x1)).mono ?_; rw [hk]; rintro r w2 ⟨rfl,x2⟩)
      | (go_at_call 258; refine (isDigits_any s _ hs0).mono ?_; rw [HDG.out]; rintro r w3 ⟨rfl,rfl⟩)
      | (go_at_call 261; refine (trim_any s _ hsz).mono ?_; rw [HTL.out]; rintro r w3 ⟨rfl,x3⟩; have M5:=Lib.hid (hM.out.to ((x1.trans x2).trans x3)))
      | (go_at_call 169; refine (fail_any M5.out.ps).mono ?_; rintro r w4 ⟨rfl,rfl⟩))
     exact And.intro rfl (.inr ⟨a1,by unfold Hid; rw [HE.out,E2.out,HDG.out]; rw [if_neg (fun q=>hal q.2.1)],rfl,M5.out⟩)
  ·have hkb:(kd_ C.L a1 != 1)=true:=by simpa using hk
   go_wp2_with (first
    | (go_at_call 119; refine (peek_any hM.out.ps).mono ?_; rintro r w1 ⟨rfl,x1⟩)
    | (go_at_call 168; refine (kind_any (hM.out.ps.to x1)).mono ?_; rintro r w2 ⟨rfl,x2⟩)
    | (go_at_call 169; refine (fail_any (hM.out.ps.to (x1.trans x2))).mono ?_; rintro r w4 ⟨rfl,rfl⟩))
   exact And.intro rfl (.inr ⟨a1,by unfold Hid; rw [HE.out]; unfold cnum2; exact if_neg fun h=>hk h.1,rfl,hM.out.to (x1.trans x2)⟩)
end Go.Proofs.YtmmnhbhnjiajhaaGreatDoor.c
