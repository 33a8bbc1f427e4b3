/- Contract of code.Check. The table strings.asciiSpace holds what its text lays; sizes are bounded. -/
import Derived.Test.YtknaemlnhediaaaGreatDoorCode
import Derived.Test.YtknaemlnhediaaaGreatDoorLookC
import Derived.Test.YtknaemlnhediaaaGreatDoorUns
namespace Go.Proofs.YtknaemlnhediaaaGreatDoor.c
open Go.RowKit
set_option linter.unusedVariables false
set_option maxRecDepth 100000
set_option maxHeartbeats 1600000
set_option linter.unusedSimpArgs false

theorem look_cells (f:Fc) (w:World) (hC:CdAt w f.A f.code) (sn:Sane f.code) :
  Calls Tryz.prog 123 #[.agg #[.string f.name,.int .i64 f.params,.int .i64 f.places,.int .i64 f.ty.base,.int .i64 f.ty.bits,.string f.ty.name,.bool f.ty.opt,.bool f.ty.err,.slice f.A f.code.length f.cap]] w fun e w'=>∃ mb,e=.returned (.tuple #[.map (some mb),.int .i64 (unsoundS f.code)])∧Ext w w':=by
 refine (look_any f w hC sn).mono ?_
 rintro e w' ⟨mb,S,wr,rfl,x,_,_,_,_,hl⟩
 exact ⟨mb,by rw [unsound_eq hl],x⟩
theorem cCheck_any (A:Option Addr) (cap:Nat) (l:List Fc) (w:World) (g:Laid w) (hA:FcAt w A l) (hl:l.length ≤ 9223372036854775806) (hc:l.length ≤ 48 → countS l ≤ 9223372036854775806) (hfl:∀ f,f ∈ l → f.code.length ≤ 9223372036854775806) :
  Calls Tryz.prog 57 #[.slice A l.length cap] w fun e w'=>e=.returned (.tuple #[.int .i64 (checkE l).1,.int .i64 (checkE l).2.1,.int .i64 (checkE l).2.2])∧Ext w w':=by
 by_cases hv:validS l=0
 ·have HV:=Lib.hid hv
  have HCV:=Lib.hid (cValidate_any A cap l w g hA hl hc hfl)
  have HA:=Lib.hid hA
  clear hv hA hfl hc
  obtain ⟨len,hlen⟩:∃ len,len=l.length:=⟨_,rfl⟩
  rw [← hlen] at hl ⊢
  have HLn:=Lib.hid hlen
  clear hlen
  go_enter Tryz.func57,Tryz.ntmps57
  go_wp2_with (first | (go_at_call 59; rw [HLn.out]; refine (HCV.out).mono ?_; rw [HV.out,← HLn.out]; rintro r w1 ⟨rfl,x1⟩))
  have HX0:=Lib.hid x1
  clear x1
  go_loopw [17] (fun i wr=>∃ k:Nat,k ≤ len∧i=.int .i64 k∧(∀ j,j < k → unsoundS (l.getD j default).code < 0)∧Ext w wr) (fun i _=>len - (intOf i).toNat)
  case atStart=>exact ⟨0,Nat.zero_le _,rfl,fun j hj=>by omega,HX0.out⟩
  case round =>
   obtain ⟨k,hk,rfl,hn,hx⟩:=hrel
   have HN:=Lib.hid hn
   have HX:=Lib.hid hx
   clear hn hx
   by_cases hlt:k < len
   ·obtain ⟨f,hf⟩:∃ f,f=l.getD k default:=⟨_,rfl⟩
    obtain ⟨b,off,rfl,hb,c0,c1,c2,c3,c4,c5,c6,c7,c8,hcd⟩:=(HA.out.ext HX.out).at_ (k:=k) (by rw [← HLn.out]; exact hlt) hf
    obtain ⟨q,hq⟩:∃ q,q=unsoundS f.code:=⟨_,rfl⟩
    have HQ:=Lib.hid hq
    have HCD:=Lib.hid hcd
    have HF:=Lib.hid hf
    have HSN:Hid (Sane f.code):=sane_of HV.out (by rw [hf]; exact getD_mem (by rw [← HLn.out]; exact hlt))
    clear hf hcd hq
    go_wp2_with (first | (go_at_call 123; refine (look_cells f _ (HCD.out.ext exL) HSN.out).mono ?_; rw [← HQ.out]; rintro r w2 ⟨mb,rfl,x2⟩))
    case roundEnd =>
     have h9:q < 0:=by assumption
     refine ⟨⟨k + 1,by omega,by go_num,fun j hj=>?_,HX.out.trans exL⟩,by simp [intOf]; omega⟩
     rcases Nat.lt_or_ge j k with h | h
     ·exact HN.out j h
     ·obtain rfl:j=k:=by omega
      rw [← HF.out,← HQ.out]; exact h9
    all_goals
     have h9:0 ≤ q:=by assumption
     have e:=check_bad HV.out (k:=k) (by rw [← HLn.out]; exact hlt) (by rw [← HF.out,← HQ.out]; exact h9) HN.out
     rw [← HF.out,← HQ.out] at e
     go_ret3
     exact ⟨ret_i3c (by rw [e]) (by rw [e]) (by rw [e]),HX.out.trans exL⟩
   ·go_wp2_with fail
    go_ret3
    have e:=check_good HV.out (fun j hj=>HN.out j (by have:=HLn.out; omega))
    exact ⟨ret_i3c (by rw [e]) (by rw [e]) (by rw [e]),HX.out⟩
 ·obtain ⟨v,hvv⟩:∃ v,v=validS l:=⟨_,rfl⟩
  have hb:(v != 0)=true:=by rw [bne_iff_ne,hvv]; exact hv
  have HV:=Lib.hid hvv
  have HN:=Lib.hid hv
  have HCV:=Lib.hid (cValidate_any A cap l w g hA hl hc hfl)
  clear hvv hv hA hfl hc
  go_enter Tryz.func57,Tryz.ntmps57
  go_wp2_with (first | (go_at_call 59; refine (HCV.out).mono ?_; rw [← HV.out]; rintro r w1 ⟨rfl,x1⟩))
  go_ret3
  exact ⟨ret_i3c (by unfold checkE; rw [if_neg HN.out]) (by unfold checkE; rw [if_neg HN.out]) (by unfold checkE; rw [if_neg HN.out,HV.out]),exL⟩
end Go.Proofs.YtknaemlnhediaaaGreatDoor.c
