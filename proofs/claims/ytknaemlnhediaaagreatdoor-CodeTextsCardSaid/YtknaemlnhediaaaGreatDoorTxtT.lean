/- The text of a type: which bytes it has, and that it tells the type. No condition. -/
import Derived.Test.YtknaemlnhediaaaGreatDoorTxtN
import Derived.Test.YtknaemlnhediaaaGreatDoorData
namespace Go.Proofs.YtknaemlnhediaaaGreatDoor.c
open Go.RowKit
set_option linter.unusedVariables false
set_option linter.unusedSimpArgs false
def voidT:List UInt8:=[118,111,105,100]
def boolT:List UInt8:=[98,111,111,108]
def typT:List UInt8:=[116,121,112,101]
def baseT (t:Ty):List UInt8:=if t.base=0 then voidT else if t.base=1 then boolT else if t.base=4 then typT else if t.base=5 then t.name.data.toList else tname (t.base == 3) t.bits.toNat
def typeT (t:Ty):List UInt8:=(if t.err then [33] else []) ++ ((if t.opt then [63] else []) ++ baseT t)
theorem emp_iff (s:ByteArray):emp s=true ↔ s.data.toList=[]:=by unfold emp; rw [List.isEmpty_iff,← Lib.toList_data]
theorem emp_eq {s:ByteArray} (h:emp s=true):s.data.toList=[]:=(emp_iff s).1 h
theorem bytes_inj {a b:ByteArray} (h:a.data.toList=b.data.toList):a=b:=ByteArray.ext (Array.toList_inj.1 h)
theorem type_cases {t:Ty} (h:isTypeS t=true) :
  (∃ (s:Bool) (k:Nat),t.base=(if s then 3 else 2)∧k < 31∧t.bits=((k + 1:Nat):Int)∧emp t.name=true) ∨ (t.base=5∧t.bits=0∧isNameS t.name=true) ∨ ((t.base=0 ∨ t.base=1 ∨ t.base=4)∧t.bits=0∧emp t.name=true):=by
 unfold isTypeS at h
 split at h
 ·rename_i h1
  simp only [Bool.and_eq_true,bitsOk,decide_eq_true_eq] at h
  refine .inl ⟨t.base == 3,(t.bits - 1).toNat,?_,by omega,by omega,h.2⟩
  rcases h1 with h1 | h1 <;> simp [h1]
 ·split at h
  ·rename_i h1
   simp only [Bool.and_eq_true,beq_iff_eq] at h
   exact .inr (.inl ⟨h1,h.1,h.2⟩)
  ·refine .inr (.inr ?_)
   split at h
   ·simp only [Bool.and_eq_true,beq_iff_eq] at h
    exact ⟨.inl (by assumption),h.1.1,h.1.2⟩
   ·split at h
    ·simp only [Bool.and_eq_true,beq_iff_eq] at h
     exact ⟨.inr (.inr (by assumption)),h.1.1.1,h.1.1.2⟩
    ·simp only [Bool.and_eq_true,beq_iff_eq] at h
     exact ⟨.inr (.inl h.1.1),h.1.2,h.2⟩
theorem name_word {s:ByteArray} (h:isNameS s=true):(∃ c r,s.data.toList=c :: r∧isLet c.toNat=true)∧∀ x,x ∈ s.data.toList → okB x=true:=by
 unfold isNameS at h
 simp only [Bool.and_eq_true] at h
 have h2:=h.1.1.2
 cases hd:s.data.toList with
 | nil=>rw [hd] at h2; cases h2
 | cons c r =>
  rw [hd] at h2
  simp only [wordS,Bool.and_eq_true] at h2
  exact ⟨⟨c,r,rfl,h2.1⟩,fun x hx=>List.all_eq_true.1 h2.2 x hx⟩
theorem name_short {s:ByteArray} (h:isNameS s=true):s.data.toList.length ≤ 8:=by
 unfold isNameS at h
 simp only [Bool.and_eq_true,decide_eq_true_eq] at h
 have:=h.1.1.1
 rwa [Lib.size_eq] at this
theorem name_key {s:ByteArray} (h:isNameS s=true):s.data.toList ≠ voidT∧s.data.toList ≠ boolT∧s.data.toList ≠ typT:=by
 unfold isNameS at h
 simp only [Bool.and_eq_true,Bool.not_eq_true'] at h
 have h2:=h.1.2
 unfold keyS at h2
 refine ⟨fun e=>?_,fun e=>?_,fun e=>?_⟩
 all_goals
  rw [e] at h2
  exact absurd h2 (by decide +kernel)
theorem name_read {s:ByteArray} (h:isNameS s=true):readS s.data.toList=none:=by
 unfold isNameS at h
 simp only [Bool.and_eq_true] at h
 have h2:=h.2
 cases hr:readS s.data.toList with
 | none=>rfl
 | some p=>obtain ⟨b,m⟩:=p; rw [readE_some hr] at h2; simp at h2
theorem wr_dig {k:Nat} (hk:k < 31):(∀ x,x ∈ wr 10 (k + 1) → isDig x.toNat=true)∧(wr 10 (k + 1)).length ≤ 2:=by
 rw [wr10 (by omega)]
 have h:∀ k:Fin 31,(if k.1 + 1 < 10 then [dg (k.1 + 1)] else [dg ((k.1 + 1) / 10),dg ((k.1 + 1) % 10)]).all (fun x=>isDig x.toNat)=true:=by decide +kernel
 refine ⟨fun x hx=>List.all_eq_true.1 (h ⟨k,hk⟩) x hx,?_⟩
 split <;> simp
theorem base_num {t:Ty} {s:Bool} {k:Nat} (e:t.base=if s then 3 else 2) (hb:t.bits=((k + 1:Nat):Int)):baseT t=tname s (k + 1):=by
 unfold baseT
 rw [hb,Int.toNat_natCast,e]
 cases s <;> simp
theorem base_name {t:Ty} (e:t.base=5):baseT t=t.name.data.toList:=by
 unfold baseT
 rw [e]
 simp
theorem base_ok {t:Ty} (h:isTypeS t=true):(∃ c r,baseT t=c :: r∧isLet c.toNat=true)∧(∀ x,x ∈ baseT t → okB x=true)∧(baseT t).length ≤ 8:=by
 rcases type_cases h with ⟨s,k,e,hk,hb,_⟩ | ⟨e,_,hn⟩ | ⟨e,_,_⟩
 ·rw [base_num e hb]
  obtain ⟨h1,h2⟩:=wr_dig hk
  refine ⟨⟨_,_,rfl,by cases s <;> decide⟩,fun x hx=>?_,by simp [tname]; omega⟩
  rcases List.mem_cons.1 hx with e1 | h3
  ·rw [e1]; cases s <;> decide
  ·unfold okB; rw [h1 x h3,Bool.or_true]
 ·rw [base_name e]
  exact ⟨(name_word hn).1,(name_word hn).2,name_short hn⟩
 ·rcases e with e | e | e
  ·rw [show baseT t=voidT by unfold baseT; simp [e]]; exact ⟨⟨_,_,rfl,by decide⟩,by decide,by decide⟩
  ·rw [show baseT t=boolT by unfold baseT; simp [e]]; exact ⟨⟨_,_,rfl,by decide⟩,by decide,by decide⟩
  ·rw [show baseT t=typT by unfold baseT; simp [e]]; exact ⟨⟨_,_,rfl,by decide⟩,by decide,by decide⟩
def readB (l:List UInt8):Int × Int × List UInt8:=if l=voidT then (0,0,[]) else if l=boolT then (1,0,[]) else if l=typT then (4,0,[]) else match readS l with | some (b,m)=>(if b then 3 else 2,m,[]) | none=>(5,0,l)
theorem tname_ne (s:Bool) (k:Nat):tname s k ≠ voidT∧tname s k ≠ boolT∧tname s k ≠ typT:=by
 refine ⟨fun e=>?_,fun e=>?_,fun e=>?_⟩
 all_goals
  have h:=(List.cons.inj e).1
  cases s <;> exact absurd h (by decide)
theorem read_base {t:Ty} (h:isTypeS t=true):readB (baseT t)=(t.base,t.bits,t.name.data.toList):=by
 rcases type_cases h with ⟨s,k,e,hk,hb,hn⟩ | ⟨e,hb,hn⟩ | ⟨e,hb,hn⟩
 ·rw [base_num e hb,e,hb,emp_eq hn]
  obtain ⟨h1,h2,h3⟩:=tname_ne s (k + 1)
  unfold readB
  rw [if_neg h1,if_neg h2,if_neg h3,(readS_iff _ s _).2 ⟨k,hk,rfl,rfl⟩]
 ·rw [base_name e,e,hb]
  obtain ⟨h1,h2,h3⟩:=name_key hn
  unfold readB
  rw [if_neg h1,if_neg h2,if_neg h3,name_read hn]
 ·rw [hb,emp_eq hn]
  rcases e with e | e | e
  ·rw [show baseT t=voidT by unfold baseT; simp [e],e]; rfl
  ·rw [show baseT t=boolT by unfold baseT; simp [e],e]; rfl
  ·rw [show baseT t=typT by unfold baseT; simp [e],e]; rfl
theorem base_inj {t u:Ty} (ht:isTypeS t=true) (hu:isTypeS u=true) (h:baseT t=baseT u):t.base=u.base∧t.bits=u.bits∧t.name=u.name:=by
 have h1:=read_base ht
 rw [h,read_base hu] at h1
 injection h1 with h1 h2
 injection h2 with h2 h3
 exact ⟨h1.symm,h2.symm,bytes_inj h3.symm⟩
theorem let_ne {c:UInt8} (h:isLet c.toNat=true):c ≠ 33∧c ≠ 63∧c ≠ 45:=by
 refine ⟨fun e=>?_,fun e=>?_,fun e=>?_⟩
 all_goals
  rw [e] at h
  exact absurd h (by decide)
theorem typeT_inj {t u:Ty} (ht:isTypeS t=true) (hu:isTypeS u=true) (h:typeT t=typeT u):t=u:=by
 obtain ⟨⟨c,r,e1,hc⟩,_⟩:=base_ok ht
 obtain ⟨⟨d,q,e2,hd⟩,_⟩:=base_ok hu
 obtain ⟨c1,c2,_⟩:=let_ne hc
 obtain ⟨d1,d2,_⟩:=let_ne hd
 have key:t.err=u.err∧t.opt=u.opt∧baseT t=baseT u:=by
  unfold typeT at h
  cases h1:t.err <;> cases h2:t.opt <;> cases h3:u.err <;> cases h4:u.opt <;> rw [h1,h2,h3,h4] at h <;> first | exact ⟨rfl,rfl,by simpa using h⟩ | (exfalso; rw [e1,e2] at h; simp at h; done) | (exfalso; rw [e1,e2] at h; simp at h; first | exact c1 h.1 | exact c2 h.1 | exact d1 h.1.symm | exact d2 h.1.symm | exact c2 h.2.1 | exact d2 h.2.1.symm)
 obtain ⟨k1,k2,k3⟩:=key
 obtain ⟨k4,k5,k6⟩:=base_inj ht hu k3
 cases t
 cases u
 simp only at k1 k2 k4 k5 k6
 subst k1 k2 k4 k5 k6
 rfl
theorem typeT_ok {t:Ty} (h:isTypeS t=true):(∀ x,x ∈ typeT t → okB x=true ∨ x=33 ∨ x=63)∧typeT t ≠ [45]∧(typeT t).length ≤ 10:=by
 obtain ⟨⟨c,r,e1,hc⟩,h2,h3⟩:=base_ok h
 obtain ⟨c1,c2,c3⟩:=let_ne hc
 unfold typeT
 refine ⟨fun x hx=>?_,fun e=>?_,?_⟩
 ·rcases List.mem_append.1 hx with hx | hx
  ·split at hx
   ·exact .inr (.inl (by simpa using hx))
   ·cases hx
  ·rcases List.mem_append.1 hx with hx | hx
   ·split at hx
    ·exact .inr (.inr (by simpa using hx))
    ·cases hx
   ·exact .inl (h2 x hx)
 ·rw [e1] at e
  cases h1:t.err <;> cases h2:t.opt <;> simp [h1,h2] at e
  exact c3 e.1
 ·cases t.err <;> cases t.opt <;> simp <;> omega
theorem okB_no {x:UInt8} (h:okB x=true ∨ x=33 ∨ x=63):x ≠ 32∧x ≠ 10∧x ≠ 58:=by
 rcases h with h | rfl | rfl
 ·refine ⟨fun e=>?_,fun e=>?_,fun e=>?_⟩
  all_goals
   rw [e] at h
   exact absurd h (by decide)
 ·decide
 ·decide
end Go.Proofs.YtknaemlnhediaaaGreatDoor.c
