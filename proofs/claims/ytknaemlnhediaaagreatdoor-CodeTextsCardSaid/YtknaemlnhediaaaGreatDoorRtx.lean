/- The text of code piece by piece and how long it is; contract of the reference's Text. The tables hold what their text lays; lengths are bounded. -/
import Derived.Test.YtknaemlnhediaaaGreatDoorTtx
import Derived.Test.YtknaemlnhediaaaGreatDoorFlow
import Derived.Test.YtknaemlnhediaaaGreatDoorRval
import Derived.Lib.AppendIntMem
namespace Go.Proofs.YtknaemlnhediaaaGreatDoor.c
open Go.RowKit Go.Sort
set_option linter.unusedVariables false
set_option linter.unusedSimpArgs false
def LaidP (w:World):Prop:=Lib.TabIs Tryz.prog w "internal/strconv.uint64pow10" .u64 Lib.pow10Tab
theorem LaidP.ext {w w':World} (h:LaidP w) (x:Ext w w'):LaidP w':=by
 have hg:Tryz.prog.globalNamed "internal/strconv.uint64pow10" = some 0 := by kernel_rfl
 have hv:w.var? Tryz.prog "internal/strconv.uint64pow10" = some _:=h
 have hlt : 0 < w.heap.size:=by
  unfold World.var? at hv
  rw [hg] at hv
  simp only [Option.bind_some] at hv
  rcases Nat.lt_or_ge 0 w.heap.size with h1 | h1
  ·exact h1
  ·rw [Array.getElem?_eq_none h1] at hv
   cases hv
 exact var?_below x.out hg hlt hv
theorem Ext.grow {w w':World} (h:Ext w w') (k:Nat) (os:Array Obj):Ext w (grow (w'.drewN k) os) :=
 h.trans ⟨Lib.below_grow _ _ (Nat.le_refl _) k os⟩
theorem itoa_any (n:Int) (h0:-9223372036854775808 ≤ n) (h1:n ≤ 9223372036854775807) (w:World) (g:LaidP w) :
  Calls Tryz.prog 62 #[.int .i64 n] w fun e w'=>e=.returned (.string ⟨(Lib.itoa n).toArray⟩)∧Ext w w' :=
 (Tryz.strconv_Itoa n h0 h1 w g).mono fun _ _ h=>⟨h.1,by obtain ⟨k,os,rfl⟩:=h.2; exact (Ext.refl w).grow k os⟩
theorem dec_len {u:Nat} (h:u < 18446744073709551616):(Lib.decDigits u).length ≤ 20:=by
 rw [Lib.decDigits_length]
 by_cases h0:u=0
 ·rw [h0,Lib.nDigits_small (by omega)]; omega
 ·have:=Lib.numDigits_eq u (by omega) h
  split at this <;> omega
theorem itoa_len {n:Int} (h0:-9223372036854775808 ≤ n) (h1:n ≤ 9223372036854775807):(Lib.itoa n).length ≤ 21:=by
 unfold Lib.itoa
 split
 ·have:=dec_len (u:=n.natAbs) (by omega)
  simp; omega
 ·have:=dec_len (u:=n.toNat) (by omega)
  omega
theorem enters_itoa:Enters 62 := Enters.of Tryz.func62 (by kernel_rfl) (by kernel_rfl)
theorem tyT_len {t:Ty} (h:isTypeS t=true):(tyT t).length ≤ 10:=by
 unfold tyT
 split
 ·simp
 ·exact (typeT_ok h).2.2
theorem nameT_len {n:ByteArray} (h:emp n=true ∨ isNameS n=true):(nameT n).length ≤ 8:=by
 unfold nameT
 rcases h with h | h
 ·rw [if_pos h]; simp
 ·rw [if_neg (by rw [(name_ne h).2]; decide)]; exact name_short h
theorem lineT_len {x:Cd} (h:TxtX x):(lineT x).length ≤ 90:=by
 have h1:=itoa_len (n:=x.op) (by have:=h.op.1; omega) (by have:=h.op.2; omega)
 have h2:=itoa_len (n:=x.a) (by have:=h.a.1; omega) (by have:=h.a.2; omega)
 have h3:=itoa_len (n:=x.b) (by have:=h.b.1; omega) (by have:=h.b.2; omega)
 have h4:=tyT_len h.ty
 have h5:=nameT_len h.name
 simp only [lineT,fieldsT,List.length_append,List.length_cons,List.length_nil]
 omega
theorem headT_len {f:Fc} (h:TxtF f):(headT f).length ≤ 90:=by
 have h1:=itoa_len (n:=f.params) (by have:=h.params.1; omega) (by have:=h.params.2; omega)
 have h2:=itoa_len (n:=f.places) (by have:=h.places.1; omega) (by have:=h.places.2; omega)
 have h3:=(typeT_ok h.ty).2.2
 have h4:=name_short h.name
 simp only [headT,fieldsT,List.length_append,List.length_cons,List.length_nil]
 omega
theorem linesT_len:∀ {L:List (List UInt8)},(∀ x,x ∈ L → x.length ≤ 90) → (linesT L).length ≤ 91 * L.length
 | [],_=>by simp [linesT]
 | x :: L,h=>by
  have h1:=h x (List.mem_cons_self ..)
  have h2:=linesT_len fun y hy=>h y (List.mem_cons_of_mem _ hy)
  rw [linesT_cons]
  simp
  omega
def funL (f:Fc) (k:Nat):List UInt8:=headT f ++ 10 :: linesT ((f.code.take k).map lineT)
theorem codeT_take (l:List Fc) {i:Nat} (hi:i < l.length) {f:Fc} (hf:f=l.getD i default):codeT (l.take (i + 1))=codeT (l.take i) ++ funL f f.code.length:=by
 unfold codeT funL
 rw [List.take_succ_eq_append_getElem hi,List.map_append,List.map_cons,List.map_nil,List.take_length]
 have:l[i]=f:=by rw [hf,List.getD,List.getElem?_eq_getElem hi]; rfl
 rw [this]
 unfold funT
 rw [List.flatMap_append,linesT_append]
 congr 1
 simp [linesT]
theorem funL_take (f:Fc) {k:Nat} (hk:k < f.code.length) {x:Cd} (hx:x=f.code.getD k default):funL f (k + 1)=funL f k ++ (lineT x ++ [10]):=by
 unfold funL
 have:f.code[k]=x:=by rw [hx,List.getD,List.getElem?_eq_getElem hk]; rfl
 rw [List.take_succ_eq_append_getElem hk,List.map_append,List.map_cons,List.map_nil,this,linesT_append]
 simp [linesT]
theorem funL_zero (f:Fc):funL f 0=headT f ++ [10]:=by simp [funL,linesT]
theorem funL_len {f:Fc} (h:TxtF f) {k:Nat} (hk:k ≤ f.code.length):(funL f k).length ≤ 91 + 91 * k:=by
 have h1:=headT_len h
 have h2:=linesT_len (L:=(f.code.take k).map lineT) (fun y hy=>by
  obtain ⟨x,hx,rfl⟩:=List.mem_map.1 hy
  exact lineT_len (h.code x (List.mem_of_mem_take hx)))
 rw [List.length_map,List.length_take,Nat.min_eq_left hk] at h2
 simp only [funL,List.length_append,List.length_cons]
 omega
theorem codeT_len {l:List Fc} (hv:validS l=0):∀ {i:Nat},i ≤ l.length → (codeT (l.take i)).length ≤ 91 * i + 91 * countS (l.take i)
 | 0,_=>by simp [codeT,funT,linesT]
 | i + 1,hi=>by
  have h1:=codeT_len hv (show i ≤ l.length by omega)
  rw [codeT_take l (show i < l.length by omega) rfl,List.length_append]
  have h2:=funL_len (valid_txt hv (getD_mem (show i < l.length by omega))) (Nat.le_refl _)
  have h3:=countS_snoc l i (by omega)
  rw [h3]
  omega
theorem text_len {l:List Fc} (hv:validS l=0) {i:Nat} (hi:i < l.length) {k:Nat} (hk:k ≤ (l.getD i default).code.length):(codeT (l.take i) ++ funL (l.getD i default) k).length ≤ 400000:=by
 have h1:=codeT_len hv (show i ≤ l.length by omega)
 have h2:=funL_len (valid_txt hv (getD_mem hi)) hk
 have h3:=countS_snoc l i hi
 have h4:=countS_le l (i + 1)
 have h5:=valid_parts hv
 have h6:=h5.1
 have h7:=h5.2.1
 rw [List.length_append]
 omega
def textS (l:List Fc):List UInt8:=if validS l=0 then codeT l else []
theorem cat_len (a b:ByteArray):(a ++ b).size=a.size + b.size:=by simp
theorem ba_size (l:List UInt8):(⟨l.toArray⟩:ByteArray).size=l.length:=by simp [ByteArray.size]
theorem ba_list (l:List UInt8):(⟨l.toArray⟩:ByteArray).data.toList=l:=by simp
theorem str_val {a:ByteArray} {l:List UInt8} (h:a.data.toList=l):Value.string a=.string ⟨l.toArray⟩:=by rw [show a=⟨l.toArray⟩ from bytes_inj (by rw [h])]
theorem cd_cells {w':World} {g:Nat} (x:Cd) (b:Blk w' g 93 #[.int .i64 x.op,.int .i64 x.a,.int .i64 x.b,.int .i64 x.ty.base,.int .i64 x.ty.bits,.string x.ty.name,.bool x.ty.opt,.bool x.ty.err,.string x.name]):w'.cell? ⟨g,0,none⟩=some (.int .i64 x.op)∧w'.cell? ⟨g,1,none⟩=some (.int .i64 x.a)∧w'.cell? ⟨g,2,none⟩=some (.int .i64 x.b)∧w'.cell? ⟨g,3,none⟩=some (.int .i64 x.ty.base)∧w'.cell? ⟨g,4,none⟩=some (.int .i64 x.ty.bits)∧w'.cell? ⟨g,5,none⟩=some (.string x.ty.name)∧w'.cell? ⟨g,6,none⟩=some (.bool x.ty.opt)∧w'.cell? ⟨g,7,none⟩=some (.bool x.ty.err)∧w'.cell? ⟨g,8,none⟩=some (.string x.name) :=
 ⟨b.cell 0,b.cell 1,b.cell 2,b.cell 3,b.cell 4,b.cell 5,b.cell 6,b.cell 7,b.cell 8⟩
structure HeadS (f:Fc) (w:World) (P1 P2 T1:ByteArray):Prop where
 i1:∀ w1,Ext w w1 → Calls Tryz.prog 62 #[.int .i64 f.params] w1 fun e w'=>e=.returned (.string P1)∧Ext w1 w'
 i2:∀ w1,Ext w w1 → Calls Tryz.prog 62 #[.int .i64 f.places] w1 fun e w'=>e=.returned (.string P2)∧Ext w1 w'
 t:T1.data.toList=typeT f.ty
 head:headT f=f.name.data.toList ++ (32 :: (P1.data.toList ++ (32 :: (P2.data.toList ++ (32 :: (T1.data.toList ++ [58]))))))
 z:f.name.size ≤ 8∧P1.size ≤ 21∧P2.size ≤ 21∧T1.size ≤ 10
theorem headS {f:Fc} {w:World} (h:TxtF f) (g:LaidP w):∃ P1 P2 T1,HeadS f w P1 P2 T1:=by
 refine ⟨⟨(Lib.itoa f.params).toArray⟩,⟨(Lib.itoa f.places).toArray⟩,⟨(typeT f.ty).toArray⟩,fun w1 x=>?_,fun w1 x=>?_,by simp,?_,?_⟩
 ·exact itoa_any _ (by have:=h.params.1; omega) (by have:=h.params.2; omega) w1 (g.ext x)
 ·exact itoa_any _ (by have:=h.places.1; omega) (by have:=h.places.2; omega) w1 (g.ext x)
 ·simp [headT,fieldsT]
 ·rw [ba_size,ba_size,ba_size,Lib.size_eq]
  exact ⟨name_short h.name,itoa_len (by have:=h.params.1; omega) (by have:=h.params.2; omega),itoa_len (by have:=h.places.1; omega) (by have:=h.places.2; omega),(typeT_ok h.ty).2.2⟩
structure LineS (x:Cd) (w:World) (O1 O2 O3 T2:ByteArray):Prop where
 i1:∀ w1,Ext w w1 → Calls Tryz.prog 62 #[.int .i64 x.op] w1 fun e w'=>e=.returned (.string O1)∧Ext w1 w'
 i2:∀ w1,Ext w w1 → Calls Tryz.prog 62 #[.int .i64 x.a] w1 fun e w'=>e=.returned (.string O2)∧Ext w1 w'
 i3:∀ w1,Ext w w1 → Calls Tryz.prog 62 #[.int .i64 x.b] w1 fun e w'=>e=.returned (.string O3)∧Ext w1 w'
 t:T2.data.toList=typeT x.ty
 line:lineT x=O1.data.toList ++ (32 :: (O2.data.toList ++ (32 :: (O3.data.toList ++ (32 :: (tyT x.ty ++ (32 :: nameT x.name)))))))
 z:O1.size ≤ 21∧O2.size ≤ 21∧O3.size ≤ 21∧T2.size ≤ 10∧x.name.size ≤ 8
theorem lineS {x:Cd} {w:World} (h:TxtX x) (g:LaidP w):∃ O1 O2 O3 T2,LineS x w O1 O2 O3 T2:=by
 refine ⟨⟨(Lib.itoa x.op).toArray⟩,⟨(Lib.itoa x.a).toArray⟩,⟨(Lib.itoa x.b).toArray⟩,⟨(typeT x.ty).toArray⟩,fun w1 xx=>?_,fun w1 xx=>?_,fun w1 xx=>?_,by simp,?_,?_⟩
 ·exact itoa_any _ (by have:=h.op.1; omega) (by have:=h.op.2; omega) w1 (g.ext xx)
 ·exact itoa_any _ (by have:=h.a.1; omega) (by have:=h.a.2; omega) w1 (g.ext xx)
 ·exact itoa_any _ (by have:=h.b.1; omega) (by have:=h.b.2; omega) w1 (g.ext xx)
 ·simp [lineT,fieldsT]
 ·rw [ba_size,ba_size,ba_size,ba_size,Lib.size_eq]
  refine ⟨itoa_len (by have:=h.op.1; omega) (by have:=h.op.2; omega),itoa_len (by have:=h.a.1; omega) (by have:=h.a.2; omega),itoa_len (by have:=h.b.1; omega) (by have:=h.b.2; omega),(typeT_ok h.ty).2.2,?_⟩
  rcases h.name with e | e
  ·rw [emp_eq e]; simp
  ·exact name_short e
end Go.Proofs.YtknaemlnhediaaaGreatDoor.c
