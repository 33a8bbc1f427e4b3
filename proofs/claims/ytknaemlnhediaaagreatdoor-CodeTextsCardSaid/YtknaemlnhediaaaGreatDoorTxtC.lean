/- The text of code: two right codes have one text exactly if they are the same. No condition. -/
import Derived.Test.YtknaemlnhediaaaGreatDoorTxtT
import Derived.Test.YtknaemlnhediaaaGreatDoorSane
import Derived.Test.YtknaemlnhediaaaGreatDoorEqb
namespace Go.Proofs.YtknaemlnhediaaaGreatDoor.c
open Go.RowKit
set_option linter.unusedVariables false
set_option linter.unusedSimpArgs false
def tyT (t:Ty):List UInt8:=if tz t then [45] else typeT t
def nameT (n:ByteArray):List UInt8:=if emp n then [45] else n.data.toList
def lineT (x:Cd):List UInt8:=fieldsT [Lib.itoa x.op,Lib.itoa x.a,Lib.itoa x.b,tyT x.ty,nameT x.name]
def headT (f:Fc):List UInt8:=fieldsT [f.name.data.toList,Lib.itoa f.params,Lib.itoa f.places,typeT f.ty] ++ [58]
def codeT (l:List Fc):List UInt8:=linesT (funT (l.map fun f=>(headT f,f.code.map lineT)))
structure TxtX (x:Cd):Prop where
 ty:isTypeS x.ty=true
 name:emp x.name=true ∨ isNameS x.name=true
 op:-2147483648 ≤ x.op∧x.op ≤ 2147483648
 a:-2147483648 ≤ x.a∧x.a ≤ 2147483648
 b:-2147483648 ≤ x.b∧x.b ≤ 2147483648
structure TxtF (f:Fc):Prop where
 name:isNameS f.name=true
 ty:isTypeS f.ty=true
 params:0 ≤ f.params∧f.params ≤ 200
 places:0 ≤ f.places∧f.places ≤ 200
 code:∀ x,x ∈ f.code → TxtX x
theorem tz_eq {t:Ty} (h:tz t=true):t=⟨0,0,⟨#[]⟩,false,false⟩:=by
 unfold tz at h
 simp only [Bool.and_eq_true,beq_iff_eq,Bool.not_eq_true'] at h
 obtain ⟨h1,h2,h3,h4,h5⟩:=h
 obtain ⟨a,b,n,o,e⟩:=t
 simp only at h1 h2 h3 h4 h5
 rw [h1,h2,h4,h5,bytes_inj (b:=⟨#[]⟩) (emp_eq h3)]
theorem tz_type {t:Ty} (h:tz t=true):isTypeS t=true:=by rw [tz_eq h]; simp [isTypeS,show emp ⟨#[]⟩=true from (emp_iff _).2 rfl]
theorem plain_type {t:Ty} (h:isPlainS t=true):isTypeS t=true:=by
 unfold isPlainS at h
 simp only [Bool.and_eq_true] at h
 exact h.1.1
theorem int_type {t:Ty} (h:isIntS t=true):isTypeS t=true:=by
 unfold isIntS at h
 simp only [Bool.and_eq_true] at h
 exact plain_type h.1
theorem push_type {t:Ty} (h:pushS t=true):isTypeS t=true:=by
 unfold pushS at h
 simp only [Bool.or_eq_true,Bool.and_eq_true] at h
 rcases h with h | h
 ·exact int_type h
 ·exact plain_type h.1
theorem ran_type {t:Ty} (h:isRanS t=true):isTypeS t=true:=by
 unfold isRanS at h
 simp only [Bool.and_eq_true] at h
 exact h.1
theorem fcS_name {l:List Fc} {f:Fc} (h:fcS l f=true):isNameS f.name=true∧isTypeS f.ty=true:=by
 unfold fcS at h
 simp only [Bool.and_eq_true] at h
 exact ⟨h.1,ran_type h.2.2.1⟩
theorem index_fc {l:List Fc} (hv:validS l=0) {n:ByteArray} (h:0 ≤ indexS l n):isNameS n=true∧0 ≤ (l.getD (indexS l n).toNat default).params∧(l.getD (indexS l n).toNat default).params ≤ 200:=by
 rcases findI_cases (fun k=>(l.getD k default).name.toList == n.toList) l.length with ⟨hi,_⟩ | ⟨k,hi,hk,hp,_⟩
 ·have:indexS l n=-1:=hi
  omega
 ·have e:indexS l n=k:=hi
  rw [e,Int.toNat_natCast]
  have h2:=valid_fc hv (getD_mem hk)
  have h3:=fcS_parts h2
  have h4:=(valid_parts hv).2.2.1 _ (getD_mem hk)
  refine ⟨?_,h3.1,by omega⟩
  have:(l.getD k default).name=n:=by
   have hp2:(l.getD k default).name.toList=n.toList:=by simpa using hp
   exact bytes_inj (by rw [← Lib.toList_data,← Lib.toList_data]; exact hp2)
  rw [← this]
  exact (fcS_name h2).1
theorem inst_txt {l:List Fc} {f:Fc} {x:Cd} (hv:validS l=0) (hf:f ∈ l) (hx:x ∈ f.code):TxtX x:=by
 have hp:=valid_parts hv
 have hq:=fcS_parts (valid_fc hv hf)
 have hi:=hq.2.2.2 x hx
 have hpl:=hp.2.2.1 f hf
 have hcl:=len_count hf
 have hc2:=hp.2.1
 have hq1:=hq.1
 have hq2:=hq.2.1
 have hix:=fun n=>index_fc (n:=n) hv
 unfold instS at hi
 cases hs:shapeS l f x with
 | none=>rw [hs] at hi; cases hi
 | some q =>
  obtain ⟨p,q,r,s⟩:=q
  rw [hs] at hi
  simp only [Bool.and_eq_true] at hi
  obtain ⟨rfl,rfl,rfl,rfl⟩:=hi
  have hw:wrap64 (f.places - 1)=f.places - 1:=IntWalk.wrap64_in _ (by omega)
  unfold shapeS at hs
  rw [hw] at hs
  clear hp hq hv
  repeat' split at hs
  all_goals try (cases hs; done)
  all_goals
   simp only [Option.some.injEq,Prod.mk.injEq,inB,Bool.and_eq_true,decide_eq_true_eq,beq_iff_eq] at hs
   obtain ⟨h1,h2,h3,h4⟩:=hs
   refine ⟨?_,?_,by omega,by omega,?_⟩
   ·first | exact tz_type h3 | exact push_type h3 | exact int_type h3
   ·first | exact .inl h4 | exact .inr h4 | exact .inr (hix _ h4).1
   ·first | (have h5:=hix _ h4; have h6:=h5.2; omega) | omega
theorem valid_txt {l:List Fc} (hv:validS l=0) {f:Fc} (hf:f ∈ l):TxtF f:=by
 have h1:=valid_fc hv hf
 have h2:=fcS_parts h1
 have h3:=(valid_parts hv).2.2.1 f hf
 exact ⟨(fcS_name h1).1,(fcS_name h1).2,⟨h2.1,by omega⟩,⟨by omega,h3⟩,fun x hx=>inst_txt hv hf hx⟩
theorem tyT_inj {t u:Ty} (ht:isTypeS t=true) (hu:isTypeS u=true) (h:tyT t=tyT u):t=u:=by
 unfold tyT at h
 cases h1:tz t <;> cases h2:tz u <;> simp [h1,h2] at h
 ·exact typeT_inj ht hu h
 ·exact absurd h (typeT_ok ht).2.1
 ·exact absurd h.symm (typeT_ok hu).2.1
 ·rw [tz_eq h1,tz_eq h2]
theorem name_ne {s:ByteArray} (h:isNameS s=true):s.data.toList ≠ [45]∧emp s=false:=by
 obtain ⟨⟨c,r,e,hc⟩,_⟩:=name_word h
 refine ⟨fun h2=>?_,?_⟩
 ·rw [e] at h2
  exact (let_ne hc).2.2 (List.cons.inj h2).1
 ·rw [Bool.eq_false_iff,Ne,emp_iff,e]
  simp
theorem nameT_inj {a b:ByteArray} (ha:emp a=true ∨ isNameS a=true) (hb:emp b=true ∨ isNameS b=true) (h:nameT a=nameT b):a=b:=by
 unfold nameT at h
 rcases ha with ha | ha <;> rcases hb with hb | hb
 ·exact bytes_inj (by rw [emp_eq ha,emp_eq hb])
 ·rw [if_pos ha,if_neg (by rw [(name_ne hb).2]; decide)] at h
  exact absurd h.symm (name_ne hb).1
 ·rw [if_pos hb,if_neg (by rw [(name_ne ha).2]; decide)] at h
  exact absurd h (name_ne ha).1
 ·rw [if_neg (by rw [(name_ne ha).2]; decide),if_neg (by rw [(name_ne hb).2]; decide)] at h
  exact bytes_inj h
def Fld (l:List UInt8):Prop:=(32:UInt8) ∉ l∧(10:UInt8) ∉ l∧(58:UInt8) ∉ l
theorem fld_of {l:List UInt8} (h:∀ x,x ∈ l → x ≠ 32∧x ≠ 10∧x ≠ 58):Fld l:=⟨fun k=>(h _ k).1 rfl,fun k=>(h _ k).2.1 rfl,fun k=>(h _ k).2.2 rfl⟩
theorem fld_itoa (n:Int):Fld (Lib.itoa n):=itoa_no
theorem fld_type {t:Ty} (h:isTypeS t=true):Fld (typeT t):=fld_of fun x hx=>okB_no ((typeT_ok h).1 x hx)
theorem fld_ty {t:Ty} (h:isTypeS t=true):Fld (tyT t):=by
 unfold tyT
 split
 ·exact fld_of fun x hx=>by rw [show x=45 by simpa using hx]; decide
 ·exact fld_type h
theorem fld_word {n:ByteArray} (h:isNameS n=true):Fld n.data.toList:=fld_of fun x hx=>okB_no (.inl ((name_word h).2 x hx))
theorem fld_name {n:ByteArray} (h:emp n=true ∨ isNameS n=true):Fld (nameT n):=by
 unfold nameT
 rcases h with h | h
 ·rw [if_pos h]
  exact fld_of fun x hx=>by rw [show x=45 by simpa using hx]; decide
 ·rw [if_neg (by rw [(name_ne h).2]; decide)]
  exact fld_word h
theorem fields_mem {x:UInt8}:∀ {L:List (List UInt8)},x ∈ fieldsT L → x=32 ∨ ∃ l,l ∈ L∧x ∈ l
 | [],h=>by cases h
 | [l],h=>.inr ⟨l,List.mem_cons_self ..,h⟩
 | l :: m :: L,h=>by
  rcases List.mem_append.1 (show x ∈ l ++ 32 :: fieldsT (m :: L) from h) with h | h
  ·exact .inr ⟨l,List.mem_cons_self ..,h⟩
  ·rcases List.mem_cons.1 h with h | h
   ·exact .inl h
   ·rcases fields_mem h with h | ⟨k,hk,h⟩
    ·exact .inl h
    ·exact .inr ⟨k,List.mem_cons_of_mem _ hk,h⟩
theorem lineT_flds {x:Cd} (h:TxtX x):∀ l,l ∈ [Lib.itoa x.op,Lib.itoa x.a,Lib.itoa x.b,tyT x.ty,nameT x.name] → Fld l:=by
 intro l hl
 simp only [List.mem_cons,List.not_mem_nil,or_false] at hl
 rcases hl with rfl | rfl | rfl | rfl | rfl
 ·exact fld_itoa _
 ·exact fld_itoa _
 ·exact fld_itoa _
 ·exact fld_ty h.ty
 ·exact fld_name h.name
theorem headT_flds {f:Fc} (h:TxtF f):∀ l,l ∈ [f.name.data.toList,Lib.itoa f.params,Lib.itoa f.places,typeT f.ty] → Fld l:=by
 intro l hl
 simp only [List.mem_cons,List.not_mem_nil,or_false] at hl
 rcases hl with rfl | rfl | rfl | rfl
 ·exact fld_word h.name
 ·exact fld_itoa _
 ·exact fld_itoa _
 ·exact fld_type h.ty
theorem flds_no {L:List (List UInt8)} (h:∀ l,l ∈ L → Fld l):(10:UInt8) ∉ fieldsT L∧(58:UInt8) ∉ fieldsT L:=by
 refine ⟨fun hx=>?_,fun hx=>?_⟩
 ·rcases fields_mem hx with e | ⟨l,hl,e⟩
  ·exact absurd e (by decide)
  ·exact (h l hl).2.1 e
 ·rcases fields_mem hx with e | ⟨l,hl,e⟩
  ·exact absurd e (by decide)
  ·exact (h l hl).2.2 e
theorem lineT_inj {x y:Cd} (hx:TxtX x) (hy:TxtX y) (h:lineT x=lineT y):x=y:=by
 have e:=fieldsT_inj (by simp) (fun l hl=>(lineT_flds hx l hl).1) (fun l hl=>(lineT_flds hy l hl).1) h
 simp only [List.cons.injEq,and_true] at e
 obtain ⟨e1,e2,e3,e4,e5⟩:=e
 obtain ⟨p,a,b,t,n⟩:=x
 obtain ⟨p2,a2,b2,t2,n2⟩:=y
 have f1:=itoa_inj e1
 have f2:=itoa_inj e2
 have f3:=itoa_inj e3
 have f4:=tyT_inj hx.ty hy.ty e4
 have f5:=nameT_inj hx.name hy.name e5
 simp only at f1 f2 f3 f4 f5
 rw [f1,f2,f3,f4,f5]
def fkey (f:Fc):ByteArray × Int × Int × Ty × List Cd:=(f.name,f.params,f.places,f.ty,f.code)
theorem map_inj_on {α β:Type} {f:α → β}:∀ {l m:List α},(∀ x y,x ∈ l → y ∈ m → f x=f y → x=y) → l.map f=m.map f → l=m
 | [],[],_,_=>rfl
 | [],y :: m,_,h=>by simp at h
 | x :: l,[],_,h=>by simp at h
 | x :: l,y :: m,hp,h=>by
  simp only [List.map_cons,List.cons.injEq] at h
  rw [hp x y (List.mem_cons_self ..) (List.mem_cons_self ..) h.1,map_inj_on (fun a b ha hb=>hp a b (List.mem_cons_of_mem _ ha) (List.mem_cons_of_mem _ hb)) h.2]
theorem map_keys {α β γ:Type} {f:α → β} {g:α → γ}:∀ {l m:List α},(∀ x y,x ∈ l → y ∈ m → f x=f y → g x=g y) → l.map f=m.map f → l.map g=m.map g
 | [],[],_,_=>rfl
 | [],y :: m,_,h=>by simp at h
 | x :: l,[],_,h=>by simp at h
 | x :: l,y :: m,hp,h=>by
  simp only [List.map_cons,List.cons.injEq] at h ⊢
  exact ⟨hp x y (List.mem_cons_self ..) (List.mem_cons_self ..) h.1,map_keys (fun a b ha hb=>hp a b (List.mem_cons_of_mem _ ha) (List.mem_cons_of_mem _ hb)) h.2⟩
theorem fun_inj {f g:Fc} (hf:TxtF f) (hg:TxtF g) (h:headT f=headT g) (h2:f.code.map lineT=g.code.map lineT):fkey f=fkey g:=by
 have e:=fieldsT_inj (by simp) (fun l hl=>(headT_flds hf l hl).1) (fun l hl=>(headT_flds hg l hl).1) (List.append_cancel_right h)
 simp only [List.cons.injEq,and_true] at e
 obtain ⟨e1,e2,e3,e4⟩:=e
 have hc:=map_inj_on (fun x y hx hy=>lineT_inj (hf.code x hx) (hg.code y hy)) h2
 unfold fkey
 rw [bytes_inj e1,itoa_inj e2,itoa_inj e3,typeT_inj hf.ty hg.ty e4,hc]
theorem codeT_inj {l m:List Fc} (hl:∀ f,f ∈ l → TxtF f) (hm:∀ f,f ∈ m → TxtF f) (h:codeT l=codeT m):l.map fkey=m.map fkey:=by
 have no10:∀ {q:List Fc},(∀ f,f ∈ q → TxtF f) → ∀ x,x ∈ funT (q.map fun f=>(headT f,f.code.map lineT)) → (10:UInt8) ∉ x:=by
  intro q hq x hx
  unfold funT at hx
  obtain ⟨p,hp,hxp⟩:=List.mem_flatMap.1 hx
  obtain ⟨f,hf,rfl⟩:=List.mem_map.1 hp
  rcases List.mem_cons.1 hxp with e | e
  ·rw [e]
   intro h10
   rcases List.mem_append.1 (show (10:UInt8) ∈ fieldsT _ ++ [58] from h10) with h | h
   ·exact (flds_no (headT_flds (hq f hf))).1 h
   ·exact absurd h (by decide)
  ·obtain ⟨y,hy,rfl⟩:=List.mem_map.1 e
   exact (flds_no (lineT_flds ((hq f hf).code y hy))).1
 have colon:∀ {q:List Fc},(∀ f,f ∈ q → TxtF f) → ∀ y,y ∈ (q.map fun f=>(headT f,f.code.map lineT)) → (58:UInt8) ∈ y.1∧∀ x,x ∈ y.2 → (58:UInt8) ∉ x:=by
  intro q hq y hy
  obtain ⟨f,hf,rfl⟩:=List.mem_map.1 hy
  refine ⟨List.mem_append_right _ (List.mem_cons_self ..),fun x hx=>?_⟩
  obtain ⟨z,hz,rfl⟩:=List.mem_map.1 hx
  exact (flds_no (lineT_flds ((hq f hf).code z hz))).2
 have e:=funT_inj (colon hl) (colon hm) (linesT_inj (no10 hl) (no10 hm) h)
 refine map_keys (fun f g hf hg e2=>?_) e
 exact fun_inj (hl f hf) (hm g hg) (congrArg Prod.fst e2) (congrArg Prod.snd e2)
theorem keys_codeT {l m:List Fc} (h:l.map fkey=m.map fkey):codeT l=codeT m:=by
 unfold codeT
 rw [map_keys (f:=fkey) (g:=fun f=>(headT f,f.code.map lineT)) (fun f g _ _ e=>?_) h]
 unfold fkey at e
 simp only [Prod.mk.injEq] at e
 obtain ⟨e1,e2,e3,e4,e5⟩:=e
 unfold headT
 rw [e1,e2,e3,e4,e5]
def sameCd (x y:Cd):Bool:=x.op == y.op && (x.a == y.a && (x.b == y.b && (tyB x.ty y.ty && x.name.toList == y.name.toList)))
def sameFc (f g:Fc):Bool:=f.name.toList == g.name.toList && (f.params == g.params && (f.places == g.places && (tyB f.ty g.ty && eqB f.code.length g.code.length fun i=>sameCd (f.code.getD i default) (g.code.getD i default))))
def sameC (l m:List Fc):Bool:=eqB l.length m.length fun i=>sameFc (l.getD i default) (m.getD i default)
theorem str_eq {a b:ByteArray}:a.toList=b.toList ↔ a=b :=
 ⟨fun h=>bytes_inj (by rw [← Lib.toList_data,← Lib.toList_data]; exact h),fun h=>by rw [h]⟩
theorem tyB_iff {t u:Ty}:tyB t u=true ↔ t=u:=by
 obtain ⟨a,b,n,o,e⟩:=t
 obtain ⟨a2,b2,n2,o2,e2⟩:=u
 unfold tyB
 simp only [Bool.and_eq_true,beq_iff_eq,str_eq,Ty.mk.injEq]
theorem sameCd_iff {x y:Cd}:sameCd x y=true ↔ x=y:=by
 obtain ⟨p,a,b,t,n⟩:=x
 obtain ⟨p2,a2,b2,t2,n2⟩:=y
 unfold sameCd
 simp only [Bool.and_eq_true,beq_iff_eq,str_eq,tyB_iff,Cd.mk.injEq]
theorem eqB_map {α β:Type} [Inhabited α] {p:α → α → Bool} {g:α → β} (hp:∀ x y,p x y=true ↔ g x=g y) (l m:List α):eqB l.length m.length (fun i=>p (l.getD i default) (m.getD i default))=true ↔ l.map g=m.map g:=by
 unfold eqB
 rw [Bool.and_eq_true,decide_eq_true_eq,allB_iff]
 constructor
 ·rintro ⟨h1,h2⟩
  refine List.ext_getElem (by simpa using h1) fun i hi hj=>?_
  rw [List.length_map] at hi hj
  have:=(hp _ _).1 (h2 i hi)
  simpa [List.getD,List.getElem?_eq_getElem hi,List.getElem?_eq_getElem hj] using this
 ·intro h
  have h1:l.length=m.length:=by simpa using congrArg List.length h
  refine ⟨h1,fun j hj=>(hp _ _).2 ?_⟩
  have h2:=congrArg (fun q=>q[j]?) h
  simp only [List.getElem?_map] at h2
  rw [List.getElem?_eq_getElem hj,List.getElem?_eq_getElem (h1 ▸ hj)] at h2
  rw [List.getD,List.getD,List.getElem?_eq_getElem hj,List.getElem?_eq_getElem (h1 ▸ hj)]
  simpa using h2
theorem sameFc_iff {f g:Fc}:sameFc f g=true ↔ fkey f=fkey g:=by
 unfold sameFc fkey
 have h:=eqB_map (p:=sameCd) (g:=id) (fun x y=>by rw [sameCd_iff]; rfl) f.code g.code
 rw [List.map_id,List.map_id] at h
 simp only [Bool.and_eq_true,beq_iff_eq,str_eq,tyB_iff,Prod.mk.injEq,h]
theorem sameC_iff {l m:List Fc}:sameC l m=true ↔ l.map fkey=m.map fkey:=eqB_map (p:=sameFc) (g:=fkey) (fun x y=>sameFc_iff) l m
theorem sameC_self (l:List Fc):sameC l l=true:=sameC_iff.2 rfl
theorem text_same {l m:List Fc} (hl:validS l=0) (hm:validS m=0):(codeT l == codeT m)=sameC l m:=by
 rw [Bool.eq_iff_iff,beq_iff_eq,sameC_iff]
 exact ⟨codeT_inj (fun f hf=>valid_txt hl hf) (fun f hf=>valid_txt hm hf),keys_codeT⟩
end Go.Proofs.YtknaemlnhediaaaGreatDoor.c
