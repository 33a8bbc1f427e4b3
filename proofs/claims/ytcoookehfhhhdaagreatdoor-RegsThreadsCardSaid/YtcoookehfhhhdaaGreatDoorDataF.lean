/- Functions of stack code as plain data, and where they lie in memory. No condition. Contracts of the functions of package code that look at an instruction: within, isPlain, isInt, index, shapeOf, isFunc's closure. The table strings.asciiSpace holds what its text lays. Contracts of the reference's functions that look at an instruction: within, isRan, isInt, has, found, isNumber, isCode. -/
import Derived.Test.YtcoookehfhhhdaaGreatDoorTy
import Derived.StillTailTactics
import Derived.Deep.RegionHeld3
namespace Go.Proofs.YtcoookehfhhhdaaGreatDoor.c
set_option linter.unusedVariables false
set_option maxRecDepth 100000
set_option maxHeartbeats 1600000
set_option linter.unusedSimpArgs false
open Go.RowKit
def indexS (l:List Fc) (n:ByteArray):Int:=findI (fun k=>(l.getD k default).name.toList == n.toList) l.length
def shapeS (l:List Fc) (f:Fc) (x:Cd):Option (Bool × Bool × Bool × Bool) :=
 if x.op=0 then some (inB x.a (-2147483648) 2147483648,x.b == 0,pushS x.ty,emp x.name)
 else if x.op=2 ∨ x.op=3 then some (inB x.a 0 (wrap64 (f.places - 1)),x.b == 0,tz x.ty,emp x.name)
 else if x.op=5 then some (inB x.a 5 17,x.b == 0,isIntS x.ty,emp x.name)
 else if x.op=6 then some (inB x.a 18 23,x.b == 0,tz x.ty,emp x.name)
 else if x.op=7 ∨ x.op=9 ∨ x.op=10 then some (x.a == 0,x.b == 0,isIntS x.ty,emp x.name)
 else if x.op=12 ∨ x.op=13 ∨ x.op=14 ∨ x.op=15 then some (inB x.a 0 ((f.code.length:Int) - 1),x.b == 0,tz x.ty,emp x.name)
 else if x.op=16 then some (x.a == 0,decide (0 ≤ indexS l x.name) && x.b == (l.getD (indexS l x.name).toNat default).params,tz x.ty,decide (0 ≤ indexS l x.name))
 else if x.op=18 then some (x.a == 0,x.b == 0,tz x.ty,isNameS x.name)
 else if x.op=19 then some (inB x.a 1 5,x.b == 0,tz x.ty,emp x.name)
 else if x.op=1 ∨ x.op=4 ∨ x.op=8 ∨ x.op=11 ∨ x.op=17 then some (x.a == 0,x.b == 0,tz x.ty,emp x.name)
 else none

theorem run_tz_neq (t:Ty) (w:World):(binOp .neq 42 (.agg #[.int .i64 t.base,.int .i64 t.bits,.string t.name,.bool t.opt,.bool t.err]) (.agg #[.int .i64 0,.int .i64 0,.string ⟨#[]⟩,.bool false,.bool false])).run Tryz.prog w=.ok (.bool (!tz t)) w:=by
 obtain ⟨a,b,n,o,e⟩:=t
 go_simp
 unfold tz emp
 by_cases h1:a=0
 ·by_cases h2:b=0
  ·by_cases h3:n.toList=[]
   ·cases o <;> cases e <;> simp [h1,h2,h3]
   ·simp [h1,h2,h3]
  ·simp [h1,h2]
 ·simp [h1]

theorem within_any (a b c:Int) (w:World) :
  Calls Tryz.prog 125 #[.int .i64 a,.int .i64 b,.int .i64 c] w fun e w'=>e=.returned (.bool (inB a b c))∧w=w':=by
 go_enter Tryz.func125,Tryz.ntmps125
 go_wp2
 all_goals (go_ret; exact ⟨ret_bool (by unfold inB; rw [Bool.eq_iff_iff]; simp; omega),rfl⟩)
theorem isPlain_any (a b:Int) (n:ByteArray) (o e:Bool) (w:World) (g:Laid w) :
  Calls Tryz.prog 169 #[.agg #[.int .i64 a,.int .i64 b,.string n,.bool o,.bool e]] w fun r w'=>r=.returned (.bool (isPlainS ⟨a,b,n,o,e⟩))∧Ext w w':=by
 cases h:isTypeS ⟨a,b,n,o,e⟩
 all_goals
  go_enter Tryz.func169,Tryz.ntmps169
  go_wp2_with (first
   | (go_at_call 96; refine (validateType_any _ _ _ _ _ _ (g.ext exA)).mono ?_; rw [h]; rintro r w1 ⟨rfl,x1⟩; have y1:=x1.facts; have z1:=x1.z0))
  all_goals
   go_ret
   exact ⟨ret_bool (by unfold isPlainS; rw [h]; simp [*]),exA⟩
theorem isInt_any (a b:Int) (n:ByteArray) (o e:Bool) (w:World) (g:Laid w) :
  Calls Tryz.prog 168 #[.agg #[.int .i64 a,.int .i64 b,.string n,.bool o,.bool e]] w fun r w'=>r=.returned (.bool (isIntS ⟨a,b,n,o,e⟩))∧Ext w w':=by
 cases h:isPlainS ⟨a,b,n,o,e⟩
 all_goals
  have HH:=Lib.hid h
  clear h
  go_enter Tryz.func168,Tryz.ntmps168
  go_wp2_with (first
   | (go_at_call 169; refine (isPlain_any _ _ _ _ _ _ (g.ext exA)).mono ?_; rw [HH.out]; rintro r w1 ⟨rfl,x1⟩; have y1:=x1.facts; have z1:=x1.z0))
  all_goals
   go_ret
   exact ⟨ret_bool (by unfold isIntS; rw [HH.out]; simp [*]),exA⟩

theorem indexFunc_any (A:Option Addr) (n cap:Nat) (K:Nat) (caps:Array Value) (w:World) (hn:n ≤ 9223372036854775807)
  (c:Nat → Nat → Value) (hA:At w A n 9 c) (hK:Enters K) (p:Nat → Bool)
  (hp:∀ i w1,i < n → Ext w w1 → Calls Tryz.prog K (#[.agg #[c i 0,c i 1,c i 2,c i 3,c i 4,c i 5,c i 6,c i 7,c i 8]] ++ caps) w1 fun e w2=>e=.returned (.bool (p i))∧Ext w1 w2) :
  Calls Tryz.prog 48 #[.slice A n cap,.func (.func K) #[] caps] w fun e w'=>e=.returned (.int .i64 (findI p n))∧Ext w w':=by
 have HP:=Lib.hid hp; clear hp
 go_enter Tryz.func48,Tryz.ntmps48
 go_wp2
 go_loopw [5,8] (fun _ i wr=>∃ k:Nat,k ≤ n∧i=.int .i64 k∧(∀ j,j < k → p j=false)∧Ext w wr) (fun _ i _=>n - (intOf i).toNat)
 case atStart=>exact ⟨0,Nat.zero_le _,rfl,by omega,Ext.refl _⟩
 case round =>
  obtain ⟨k,hk,rfl,hnone,hx⟩:=hrel
  have HN:=Lib.hid hnone; clear hnone
  by_cases hlt:k < n
  ·obtain ⟨b,off,rfl,hb,c0,c1,c2,c3,c4,c5,c6,c7,c8⟩:=(hA.ext hx).nine hlt
   go_wp2_with fail
   have HP1:=Lib.hid (HP.out k wr hlt hx)
   simp only [hK _ _]
   go_wp2_with fail
   refine (HP1.out).mono ?_
   rintro e w1 ⟨rfl,x1⟩
   cases hpk:p k
   ·go_wp2_with fail
    go_roundw
    case rel=>exact ⟨k + 1,by omega,by go_num,(fun j hj=>by rcases Nat.lt_or_ge j k with h | h; exact HN.out j h; obtain rfl:j=k:=(by omega); exact hpk),hx.trans x1⟩
    case measure=>simp [intOf]; omega
   ·go_wp2_with fail
    go_ret
    exact ⟨ret_int (findI_hit hlt hpk HN.out).symm,hx.trans x1⟩
  ·go_wp2_with fail
   go_ret
   exact ⟨ret_int (findI_none (fun j hj=>HN.out j (by omega))).symm,hx⟩

theorem enters_index1:Enters 49 := Enters.of Tryz.func49 (by kernel_rfl) (by kernel_rfl)
theorem index1_any (f:Fc) (bn:Nat) (n:ByteArray) (w:World) (hc:w.cell? ⟨bn,0,none⟩=some (.string n)) (hb:bn < w.heap.size) :
  Calls Tryz.prog 49 #[f.val,.pointer (some ⟨bn,0,none⟩)] w fun e w'=>e=.returned (.bool (f.name.toList == n.toList))∧Ext w w':=by
 unfold Fc.val
 go_enter Tryz.func49,Tryz.ntmps49
 go_wp2
 go_ret
 exact ⟨rfl,exA⟩
theorem index_any (A:Option Addr) (cap:Nat) (l:List Fc) (n:ByteArray) (w:World) (hA:FcAt w A l) (hl:l.length ≤ 9223372036854775807) :
  Calls Tryz.prog 25 #[.slice A l.length cap,.string n] w fun e w'=>e=.returned (.int .i64 (indexS l n))∧Ext w w':=by
 go_enter Tryz.func25,Tryz.ntmps25
 go_wp2_with fail
 refine (indexFunc_any A l.length cap 49 #[.pointer (some ⟨w.heap.size,0,none⟩)] _ hl (fun i j=>fcC (l.getD i default) j) (hA.top.ext ((Ext.refl _).alloc _)) enters_index1 (fun k=>(l.getD k default).name.toList == n.toList) (fun i w1 hi x=>?_)).mono ?_
 ·exact index1_any (l.getD i default) w.heap.size n w1 ((x.cell (p:=⟨w.heap.size,0,none⟩) (by simp)).trans (by simp [go_sem])) x.z0
 ·rintro e w1 ⟨rfl,x1⟩
  go_wp2_with fail
  go_ret
  exact ⟨rfl,exA⟩


theorem rwithin_any (a b c:Int) (w:World) :
  Calls Tryz.prog 58 #[.int .i64 a,.int .i64 b,.int .i64 c] w fun e w'=>e=.returned (.bool (inB a b c))∧w=w':=by
 go_enter Tryz.func58,Tryz.ntmps58
 go_wp2
 all_goals (go_ret; exact ⟨ret_bool (by unfold inB; rw [Bool.eq_iff_iff]; simp; omega),rfl⟩)
theorem rvalidate_ty (t:Ty) (w:World):Calls Tryz.prog 66 #[.agg #[.int .i64 t.base,.int .i64 t.bits,.string t.name,.bool t.opt,.bool t.err]] w fun r w'=>r=.returned (.int .i64 (if isTypeS t then 0 else 1))∧Ext w w':=refValidateType_any _ _ _ _ _ w
theorem isRan_ty (t:Ty) (w:World) :
  Calls Tryz.prog 59 #[.agg #[.int .i64 t.base,.int .i64 t.bits,.string t.name,.bool t.opt,.bool t.err]] w fun r w'=>r=.returned (.bool (isRanS t))∧Ext w w':=by
 cases h:isTypeS t
 all_goals
  go_enter Tryz.func59,Tryz.ntmps59
  go_wp2_with (first
   | (go_at_call 66; refine (rvalidate_ty t _).mono ?_; rw [h]; rintro r w1 ⟨rfl,x1⟩; have y1:=x1.facts; have z1:=x1.z0))
  all_goals
   go_ret
   exact ⟨ret_bool (by unfold isRanS; rw [h]; simp [*]),exA⟩
theorem rIsInt_ty (t:Ty) (w:World) :
  Calls Tryz.prog 106 #[.agg #[.int .i64 t.base,.int .i64 t.bits,.string t.name,.bool t.opt,.bool t.err]] w fun r w'=>r=.returned (.bool (isIntS t))∧Ext w w':=by
 cases h:isRanS t
 all_goals
  have HH:=Lib.hid h
  clear h
  go_enter Tryz.func106,Tryz.ntmps106
  go_wp2_with (first
   | (go_at_call 59; refine (isRan_ty t _).mono ?_; rw [HH.out]; rintro r w1 ⟨rfl,x1⟩; have y1:=x1.facts; have z1:=x1.z0))
  all_goals
   go_ret
   exact ⟨ret_bool (by rw [isInt_ran,HH.out]; simp [*]),exA⟩
def hasS (op:Int):Bool × Bool × Bool × Bool :=
 if op=0 ∨ op=5 then (true,false,true,false)
 else if op=2 ∨ op=3 ∨ op=6 ∨ op=12 ∨ op=13 ∨ op=14 ∨ op=15 ∨ op=19 then (true,false,false,false)
 else if op=7 ∨ op=9 ∨ op=10 then (false,false,true,false)
 else if op=16 then (false,true,false,true)
 else if op=18 then (false,false,false,true)
 else (false,false,false,false)
theorem hasS_0 {op:Int} (h:op=0 ∨ op=5):hasS op=(true,false,true,false):=by unfold hasS; rw [if_pos h]
theorem hasS_1 {op:Int} (h:op=2 ∨ op=3 ∨ op=6 ∨ op=12 ∨ op=13 ∨ op=14 ∨ op=15 ∨ op=19):hasS op=(true,false,false,false):=by unfold hasS; rw [if_neg (by omega),if_pos h]
theorem hasS_2 {op:Int} (h:op=7 ∨ op=9 ∨ op=10):hasS op=(false,false,true,false):=by unfold hasS; rw [if_neg (by omega),if_neg (by omega),if_pos h]
theorem hasS_3 {op:Int} (h:op=16):hasS op=(false,true,false,true):=by unfold hasS; rw [if_neg (by omega),if_neg (by omega),if_neg (by omega),if_pos h]
theorem hasS_4 {op:Int} (h:op=18):hasS op=(false,false,false,true):=by unfold hasS; rw [if_neg (by omega),if_neg (by omega),if_neg (by omega),if_neg (by omega),if_pos h]
theorem hasS_5 {op:Int} (h:¬ (op=0 ∨ op=5 ∨ op=2 ∨ op=3 ∨ op=6 ∨ op=12 ∨ op=13 ∨ op=14 ∨ op=15 ∨ op=19 ∨ op=7 ∨ op=9 ∨ op=10 ∨ op=16 ∨ op=18)):hasS op=(false,false,false,false):=by
 unfold hasS; rw [if_neg (by omega),if_neg (by omega),if_neg (by omega),if_neg (by omega),if_neg (by omega)]
theorem ret_has {op:Int} {a b c d:Bool} (h:hasS op=(a,b,c,d)):Ending.returned (.tuple #[.bool a,.bool b,.bool c,.bool d])=.returned (.tuple #[.bool (hasS op).1,.bool (hasS op).2.1,.bool (hasS op).2.2.1,.bool (hasS op).2.2.2]):=by rw [h]
theorem has_any (op:Int) (w:World) :
  Calls Tryz.prog 104 #[.int .i64 op] w fun e w'=>e=.returned (.tuple #[.bool (hasS op).1,.bool (hasS op).2.1,.bool (hasS op).2.2.1,.bool (hasS op).2.2.2])∧w=w':=by
 by_cases h0:op=0 ∨ op=5
 ·have H:=Lib.hid (hasS_0 h0)
  rcases h0 with rfl | rfl
  all_goals
   go_enter Tryz.func104,Tryz.ntmps104
   go_wp2_with fail
   exact bodyPost_ret (v:=.tuple #[.bool true,.bool false,.bool true,.bool false]) (by simp [results,Tryz.results104,go_sem]) rfl ⟨ret_has H.out,rfl⟩
 ·by_cases h1:op=2 ∨ op=3 ∨ op=6 ∨ op=12 ∨ op=13 ∨ op=14 ∨ op=15 ∨ op=19
  ·have H:=Lib.hid (hasS_1 h1)
   clear h0
   rcases h1 with rfl | rfl | rfl | rfl | rfl | rfl | rfl | rfl
   all_goals
    go_enter Tryz.func104,Tryz.ntmps104
    go_wp2_with fail
    exact bodyPost_ret (v:=.tuple #[.bool true,.bool false,.bool false,.bool false]) (by simp [results,Tryz.results104,go_sem]) rfl ⟨ret_has H.out,rfl⟩
  ·by_cases h2:op=7 ∨ op=9 ∨ op=10
   ·have H:=Lib.hid (hasS_2 h2)
    clear h0 h1
    rcases h2 with rfl | rfl | rfl
    all_goals
     go_enter Tryz.func104,Tryz.ntmps104
     go_wp2_with fail
     exact bodyPost_ret (v:=.tuple #[.bool false,.bool false,.bool true,.bool false]) (by simp [results,Tryz.results104,go_sem]) rfl ⟨ret_has H.out,rfl⟩
   ·by_cases h3:op=16
    ·have H:=Lib.hid (hasS_3 h3)
     clear h0 h1 h2
     subst h3
     go_enter Tryz.func104,Tryz.ntmps104
     go_wp2_with fail
     exact bodyPost_ret (v:=.tuple #[.bool false,.bool true,.bool false,.bool true]) (by simp [results,Tryz.results104,go_sem]) rfl ⟨ret_has H.out,rfl⟩
    ·by_cases h4:op=18
     ·have H:=Lib.hid (hasS_4 h4)
      clear h0 h1 h2 h3
      subst h4
      go_enter Tryz.func104,Tryz.ntmps104
      go_wp2_with fail
      exact bodyPost_ret (v:=.tuple #[.bool false,.bool false,.bool false,.bool true]) (by simp [results,Tryz.results104,go_sem]) rfl ⟨ret_has H.out,rfl⟩
     ·have H:=Lib.hid (hasS_5 (op:=op) (by omega))
      go_enter Tryz.func104,Tryz.ntmps104
      go_wp2_with fail
      all_goals first | (exfalso; omega) | skip
      exact bodyPost_ret (v:=.tuple #[.bool false,.bool false,.bool false,.bool false]) (by simp [results,Tryz.results104,go_sem]) rfl ⟨ret_has H.out,rfl⟩
theorem found_any (A:Option Addr) (cap:Nat) (l:List Fc) (n:ByteArray) (w:World) (hA:FcAt w A l) (hl:l.length ≤ 9223372036854775806) :
  Calls Tryz.prog 57 #[.slice A l.length cap,.string n] w fun e w'=>e=.returned (.int .i64 (indexS l n))∧w=w':=by
 obtain ⟨len,hlen⟩:∃ len,len=l.length:=⟨_,rfl⟩
 rw [← hlen] at hl ⊢
 have HLn:=Lib.hid hlen
 clear hlen
 have HA:=Lib.hid hA
 clear hA
 go_enter Tryz.func57,Tryz.ntmps57
 go_wp2
 go_loop [5] (fun i=>∃ k:Nat,k ≤ len∧i=.int .i64 k∧∀ j,j < k → ((l.getD j default).name.toList == n.toList)=false) (fun i=>len - (intOf i).toNat)
 case atStart=>exact ⟨0,Nat.zero_le _,rfl,by omega⟩
 case round =>
  obtain ⟨k,hk,rfl,hnone⟩:=hrel
  have HN:=Lib.hid hnone; clear hnone
  by_cases hlt:k < len
  ·obtain ⟨f,hf⟩:∃ f,f=l.getD k default:=⟨_,rfl⟩
   obtain ⟨b,off,rfl,hb,c0,_⟩:=HA.out.at_ (k:=k) (by rw [← HLn.out]; exact hlt) hf
   have HF:=Lib.hid hf
   clear hf
   go_wp2_with fail
   case roundEnd =>
    have h9:(f.name.toList == n.toList)=false:=by assumption
    refine ⟨⟨k + 1,by omega,by go_num,fun j hj=>?_⟩,by simp [intOf]; omega⟩
    rcases Nat.lt_or_ge j k with h | h
    ·exact HN.out j h
    ·obtain rfl:j=k:=by omega
     rw [← HF.out]; exact h9
   all_goals
    have h9:(f.name.toList == n.toList)=true:=by assumption
    go_ret
    exact ⟨ret_int (by unfold indexS; rw [← HLn.out]; exact (findI_hit hlt (by rw [← HF.out]; exact h9) HN.out).symm),rfl⟩
  ·go_wp2_with fail
   go_ret
   exact ⟨ret_int (by unfold indexS; rw [← HLn.out]; exact (findI_none (fun j hj=>HN.out j (by omega))).symm),rfl⟩

def numS (f:Fc) (x:Cd):Bool :=
 if x.op=0 then inB x.a (-2147483648) 2147483648
 else if x.op=2 ∨ x.op=3 then inB x.a 0 (wrap64 (f.places - 1))
 else if x.op=5 then inB x.a 5 17
 else if x.op=6 then inB x.a 18 23
 else if x.op=19 then inB x.a 1 5
 else inB x.a 0 ((f.code.length:Int) - 1)
theorem isNumber_any (f:Fc) (op a b:Int) (ty:Ty) (nm:ByteArray) (w:World) (hfl:f.code.length ≤ 9223372036854775807) :
  Calls Tryz.prog 105 #[f.val,(Cd.mk op a b ty nm).val] w fun e w'=>e=.returned (.bool (numS f ⟨op,a,b,ty,nm⟩))∧Ext w w':=by
 unfold Fc.val Cd.val
 simp only []
 by_cases h:op=0 ∨ op=2 ∨ op=3 ∨ op=5 ∨ op=6 ∨ op=19
 ·rcases h with rfl | rfl | rfl | rfl | rfl | rfl
  all_goals
   go_enter Tryz.func105,Tryz.ntmps105
   go_wp2_with (first | (go_at_call 58; refine (rwithin_any _ _ _ _).mono ?_; rintro r w' ⟨rfl,rfl⟩))
   go_ret
   exact ⟨rfl,exA⟩
 ·have H:=Lib.hid (show numS f ⟨op,a,b,ty,nm⟩=inB a 0 ((f.code.length:Int) - 1) by
   unfold numS; simp only []; rw [if_neg (by omega),if_neg (by omega),if_neg (by omega),if_neg (by omega),if_neg (by omega)])
  have h0:(op == 0)=false:=by rw [beq_eq_false_iff_ne]; omega
  have h2:(op == 2)=false:=by rw [beq_eq_false_iff_ne]; omega
  have h3:(op == 3)=false:=by rw [beq_eq_false_iff_ne]; omega
  have h5:(op == 5)=false:=by rw [beq_eq_false_iff_ne]; omega
  have h6:(op == 6)=false:=by rw [beq_eq_false_iff_ne]; omega
  have h19:(op == 19)=false:=by rw [beq_eq_false_iff_ne]; omega
  clear h
  go_enter Tryz.func105,Tryz.ntmps105
  go_wp2_with (first | (go_at_call 58; refine (rwithin_any _ _ _ _).mono ?_; rintro r w' ⟨rfl,rfl⟩))
  go_ret
  exact ⟨ret_bool H.out.symm,exA⟩

def instS (l:List Fc) (f:Fc) (x:Cd):Bool:=match shapeS l f x with | some (p,q,r,s)=>p && (q && (r && s)) | none=>false
end Go.Proofs.YtcoookehfhhhdaaGreatDoor.c
