/- Contracts: the text of a type, by the program (num.Name, tree.TypeText) and by the reference (baseText, Spelled, TypeText). The table strings.asciiSpace holds what its text lays; the type is right. -/
import Derived.Test.YtobfbfbjccmbiaaGreatDoorAri
import Derived.Test.YtobfbfbjccmbiaaGreatDoorShelfC
namespace Go.Proofs.YtobfbfbjccmbiaaGreatDoor.c
open Go.RowKit
set_option linter.unusedVariables false
set_option maxRecDepth 100000
set_option maxHeartbeats 1600000
set_option linter.unusedSimpArgs false
theorem dg_dec {n:Nat} (h:n < 10):dg n=UInt8.ofNat (48 + n):=by
 have:∀ n:Fin 10,dg n.1=UInt8.ofNat (48 + n.1):=by decide +kernel
 exact this ⟨n,h⟩
theorem wr_dec (n:Nat):wr 10 n=Lib.decDigits n:=by
 induction n using Nat.strongRecOn with
 | ind n ih =>
  rw [Lib.decDigits]
  by_cases h:n < 10
  ·rw [dif_pos h,wr_small h,dg_dec h]
  ·rw [dif_neg h,wr_big (by omega) (by omega),ih (n / 10) (by omega),dg_dec (Nat.mod_lt _ (by decide))]
theorem itoaS_any (n:Int) (i:Nat) (e:n=(i:Int)) (hi:i < 100) (w:World):Calls Tryz.prog 60 #[.int .i64 n] w fun e w'=>e=.returned (.string ⟨(wr 10 i).toArray⟩)∧w=w':=by
 subst e
 rw [wr_dec]
 exact (Tryz.strconv_Itoa_small i hi w).mono fun _ _ h=>⟨h.1,h.2.symm⟩
theorem numName_any (s:Bool) (k:Nat) (b:Int) (hb:b=((k + 1:Nat):Int)) (hk:k < 31) (w:World) :
  Calls Tryz.prog 27 #[.agg #[.bool s,.int .i64 b]] w fun e w'=>e=.returned (.tuple #[.string ⟨(tname s (k + 1)).toArray⟩,.int .i64 0])∧Ext w w':=by
 have HV:Hid (vInt b=0):=by unfold Hid vInt; rw [if_neg (by omega)]
 have HB:=Lib.hid hb
 have HL:(wr 10 (k + 1)).length ≤ 2:=(wr_dig hk).2
 clear hb
 cases s
 all_goals
  go_enter Tryz.func27,Tryz.ntmps27
  go_wp2_with (first
   | (go_at_call 59; refine (numValidate_any _ _ _).mono ?_; rw [HV.out]; rintro e w1 ⟨rfl,x1⟩; have y1:=x1.facts; have z1:=x1.z0)
   | (go_at_call 60; refine (itoaS_any _ (k + 1) HB.out (by omega) _).mono ?_; rintro e w2 ⟨rfl,rfl⟩))
  go_ret2
  exact ⟨rfl,exA⟩
theorem ret_s0 {a:ByteArray} {l:List UInt8} (h:a.data.toList=l):Ending.returned (.tuple #[.string a,.int .i64 0])=.returned (.tuple #[.string ⟨l.toArray⟩,.int .i64 0]):=by
 rw [show a=⟨l.toArray⟩ from bytes_inj (by rw [h])]
theorem ret_s {a:ByteArray} {l:List UInt8} (h:a.data.toList=l):Ending.returned (.string a)=.returned (.string ⟨l.toArray⟩):=by
 rw [show a=⟨l.toArray⟩ from bytes_inj (by rw [h])]
def flagT (t:Ty):List UInt8:=(if t.err then [33] else []) ++ (if t.opt then [63] else [])
theorem typeT_flag (t:Ty):typeT t=flagT t ++ baseT t:=by unfold typeT flagT; rw [List.append_assoc]
theorem typeText_any (t:Ty) (w:World) (g:Laid w) (h:isTypeS t=true) :
  Calls Tryz.prog 10 #[.agg #[.int .i64 t.base,.int .i64 t.bits,.string t.name,.bool t.opt,.bool t.err]] w fun e w'=>e=.returned (.tuple #[.string ⟨(typeT t).toArray⟩,.int .i64 0])∧Ext w w':=by
 have HV:Hid (∀ w1,Ext w w1 → Calls Tryz.prog 14 #[.agg #[.int .i64 t.base,.int .i64 t.bits,.string t.name,.bool t.opt,.bool t.err]] w1 fun r w'=>r=.returned (.int .i64 0)∧Ext w1 w'):=fun w1 x=>by
  have h2:=validateType_any t.base t.bits t.name t.opt t.err w1 (g.ext x)
  have h3:isTypeS ⟨t.base,t.bits,t.name,t.opt,t.err⟩=true:=h
  rwa [h3] at h2
 have HT:=Lib.hid (typeT_flag t)
 have HF:Hid (flagT t=(if t.err then [33] else []) ++ (if t.opt then [63] else [])):=rfl
 rcases type_cases h with ⟨s,k,e,hk,hb,_⟩ | ⟨e,_,hn⟩ | ⟨e,_,_⟩
 ·have HB:=Lib.hid (base_num e hb)
  have HN:Hid (∀ w1,Calls Tryz.prog 27 #[.agg #[.bool (t.base == 3),.int .i64 t.bits]] w1 fun e w'=>e=.returned (.tuple #[.string ⟨(tname s (k + 1)).toArray⟩,.int .i64 0])∧Ext w1 w'):=fun w1=>by
   have h2:=numName_any s k t.bits hb hk w1
   rwa [show (t.base == 3)=s by rw [e]; cases s <;> rfl]
  have HL:(tname s (k + 1)).length ≤ 3:=by have:=(wr_dig hk).2; simp [tname]; omega
  obtain ⟨q,hq⟩:∃ q,q=tname s (k + 1):=⟨_,rfl⟩
  rw [← hq] at HN HB HL
  obtain ⟨tb,tbits,tn,to_,te⟩:=t
  simp only at e hb HN HV HF
  clear h hb hq
  have e9:tb=2 ∨ tb=3:=by rw [e]; cases s <;> simp
  clear e
  rcases e9 with rfl | rfl <;> cases to_ <;> cases te
  all_goals
   go_enter Tryz.func10,Tryz.ntmps10
   go_wp2_with (first
    | (go_at_call 14; refine (HV.out _ exA).mono ?_; rintro r w1 ⟨rfl,x1⟩; have y1:=x1.facts; have z1:=x1.z0)
    | (go_at_call 28; refine (intOf_any _ _ _ _ _ _).mono ?_; rintro r w2 ⟨rfl,x2⟩)
    | (go_at_call 27; refine (HN.out _).mono ?_; rintro r w3 ⟨rfl,x3⟩))
   go_ret2
   exact ⟨ret_s0 (by rw [HT.out,HF.out,HB.out]; simp),exA⟩
 ·have HB:=Lib.hid (base_name e)
  have HL:t.name.size ≤ 8:=by have:=name_short hn; rwa [Lib.size_eq]
  obtain ⟨tb,tbits,tn,to_,te⟩:=t
  simp only at e HV HF HL
  subst e
  clear h hn
  cases to_ <;> cases te
  all_goals
   go_enter Tryz.func10,Tryz.ntmps10
   go_wp2_with (first
    | (go_at_call 14; refine (HV.out _ exA).mono ?_; rintro r w1 ⟨rfl,x1⟩; have y1:=x1.facts; have z1:=x1.z0))
   go_ret2
   exact ⟨ret_s0 (by rw [HT.out,HF.out,HB.out]; simp),exA⟩
 ·have HB:Hid (baseT t=if t.base=0 then voidT else if t.base=1 then boolT else typT):=by
   unfold Hid baseT
   rcases e with e | e | e <;> simp [e]
  obtain ⟨tb,tbits,tn,to_,te⟩:=t
  simp only at e HV HF HB
  clear h
  rcases e with rfl | rfl | rfl <;> cases to_ <;> cases te
  all_goals
   go_enter Tryz.func10,Tryz.ntmps10
   go_wp2_with (first
    | (go_at_call 14; refine (HV.out _ exA).mono ?_; rintro r w1 ⟨rfl,x1⟩; have y1:=x1.facts; have z1:=x1.z0))
   go_ret2
   exact ⟨ret_s0 (by rw [HT.out,HF.out,HB.out]; simp [voidT,boolT,typT]),exA⟩
theorem rintOfT_any (a b:Int) (n:ByteArray) (o e:Bool) (w:World) :
  Calls Tryz.prog 108 #[.agg #[.int .i64 a,.int .i64 b,.string n,.bool o,.bool e]] w fun r w'=>r=.returned (.agg #[.bool (a == 3),.int .i64 b])∧Ext w w':=by
 go_enter Tryz.func108,Tryz.ntmps108
 go_wp2
 exact bodyPost_ret (v:=.agg #[.bool (a == 3),.int .i64 b]) (by simp [results,Tryz.results108,go_sem]) rfl ⟨rfl,exA⟩
theorem rbaseText_any (t:Ty) (w:World) (h:isTypeS t=true) :
  Calls Tryz.prog 61 #[.agg #[.int .i64 t.base,.int .i64 t.bits,.string t.name,.bool t.opt,.bool t.err]] w fun e w'=>e=.returned (.string ⟨(baseT t).toArray⟩)∧Ext w w':=by
 rcases type_cases h with ⟨s,k,e,hk,hb,_⟩ | ⟨e,_,hn⟩ | ⟨e,_,_⟩
 ·rw [base_num e hb]
  have HN:Hid (∀ w1,Calls Tryz.prog 72 #[.agg #[.bool (t.base == 3),.int .i64 t.bits]] w1 fun e w'=>e=.returned (.string ⟨(tname s (k + 1)).toArray⟩)∧Ext w1 w'):=fun w1=>by
   have h2:=typeName_any s (k + 1) t.bits hb w1 (by omega)
   rwa [show (t.base == 3)=s by rw [e]; cases s <;> rfl]
  have e9:t.base=2 ∨ t.base=3:=by rw [e]; cases s <;> simp
  clear h hb e
  obtain ⟨tb,tbits,tn,to_,te⟩:=t
  simp only at HN e9
  rcases e9 with rfl | rfl
  all_goals
   go_enter Tryz.func61,Tryz.ntmps61
   go_wp2_with (first
    | (go_at_call 108; refine (rintOfT_any _ _ _ _ _ _).mono ?_; rintro r w2 ⟨rfl,x2⟩)
    | (go_at_call 72; refine (HN.out _).mono ?_; rintro r w3 ⟨rfl,x3⟩))
   go_ret
   exact ⟨rfl,exA⟩
 ·rw [base_name e]
  obtain ⟨tb,tbits,tn,to_,te⟩:=t
  simp only at e
  subst e
  go_enter Tryz.func61,Tryz.ntmps61
  go_wp2_with fail
  go_ret
  exact ⟨ret_s rfl,exA⟩
 ·have HB:Hid (baseT t=if t.base=0 then voidT else if t.base=1 then boolT else typT):=by
   unfold Hid baseT
   rcases e with e | e | e <;> simp [e]
  rw [HB.out]
  obtain ⟨tb,tbits,tn,to_,te⟩:=t
  simp only at e
  clear h HB
  rcases e with rfl | rfl | rfl
  all_goals
   go_enter Tryz.func61,Tryz.ntmps61
   go_wp2_with fail
   go_ret
   exact ⟨ret_s rfl,exA⟩
theorem rspelled_any (t:Ty) (w:World) (h:isTypeS t=true) :
  Calls Tryz.prog 29 #[.agg #[.int .i64 t.base,.int .i64 t.bits,.string t.name,.bool t.opt,.bool t.err]] w fun e w'=>e=.returned (.string ⟨(typeT t).toArray⟩)∧Ext w w':=by
 have HB:Hid (∀ w1,Calls Tryz.prog 61 #[.agg #[.int .i64 t.base,.int .i64 t.bits,.string t.name,.bool t.opt,.bool t.err]] w1 fun e w'=>e=.returned (.string ⟨(baseT t).toArray⟩)∧Ext w1 w'):=fun w1=>rbaseText_any t w1 h
 have HT:=Lib.hid (typeT_flag t)
 have HF:Hid (flagT t=(if t.err then [33] else []) ++ (if t.opt then [63] else [])):=rfl
 have HL:=(base_ok h).2.2
 rw [HT.out]
 generalize baseT t=q at *
 obtain ⟨tb,tbits,tn,to_,te⟩:=t
 simp only at HB HF
 rw [HF.out]
 clear h HT HF
 cases to_ <;> cases te
 all_goals
  go_enter Tryz.func29,Tryz.ntmps29
  go_wp2_with (first
   | (go_at_call 61; refine (HB.out _).mono ?_; rintro r w2 ⟨rfl,x2⟩))
  go_ret
  exact ⟨ret_s (by simp),exA⟩
theorem rtypeText_any (t:Ty) (w:World) (h:isTypeS t=true) :
  Calls Tryz.prog 11 #[.agg #[.int .i64 t.base,.int .i64 t.bits,.string t.name,.bool t.opt,.bool t.err]] w fun e w'=>e=.returned (.tuple #[.string ⟨(typeT t).toArray⟩,.int .i64 0])∧Ext w w':=by
 have HV:Hid (∀ w1,Calls Tryz.prog 15 #[.agg #[.int .i64 t.base,.int .i64 t.bits,.string t.name,.bool t.opt,.bool t.err]] w1 fun r w'=>r=.returned (.int .i64 0)∧Ext w1 w'):=fun w1=>by
  have h2:=refValidateType_any t.base t.bits t.name t.opt t.err w1
  have h3:isTypeS ⟨t.base,t.bits,t.name,t.opt,t.err⟩=true:=h
  rwa [h3] at h2
 have HS:Hid (∀ w1,Calls Tryz.prog 29 #[.agg #[.int .i64 t.base,.int .i64 t.bits,.string t.name,.bool t.opt,.bool t.err]] w1 fun e w'=>e=.returned (.string ⟨(typeT t).toArray⟩)∧Ext w1 w'):=fun w1=>rspelled_any t w1 h
 clear h
 go_enter Tryz.func11,Tryz.ntmps11
 go_wp2_with (first
  | (go_at_call 15; refine (HV.out _).mono ?_; rintro r w1 ⟨rfl,x1⟩; have y1:=x1.facts; have z1:=x1.z0)
  | (go_at_call 29; refine (HS.out _).mono ?_; rintro r w2 ⟨rfl,x2⟩))
 go_ret2
 exact ⟨rfl,exA⟩
end Go.Proofs.YtobfbfbjccmbiaaGreatDoor.c
