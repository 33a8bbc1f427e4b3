/- Contracts of the reference's functions on tokens: isLetter, isDigit, run, signs, keys, first, tokens, isToken, IsWord, IsKey. Condition: the text is not longer than 1,048,576 bytes. Contracts of the reference's tokens, isToken and IsWord. Condition: the text is not longer than 1,048,576 bytes. A name by the code and by the reference is one thing: contracts of tree.IsName and of the reference's IsName, over one plain function. The table strings.asciiSpace holds what its text lays. A type by the code and by the reference is one thing: contracts of tree.isType, tree.ValidateType, and of the reference's isType, ValidateType, over one plain function. The table strings.asciiSpace holds what its text lays. Functions of stack code as plain data, and where they lie in memory. No condition. Contracts of the functions of package code that look at an instruction: within, isPlain, isInt, index, shapeOf, isFunc's closure. The table strings.asciiSpace holds what its text lays. Contracts of the reference's functions that look at an instruction: within, isRan, isInt, has, found, isNumber, isCode. Functions of stack code as plain data. No condition. Plain arithmetic of numbers of types: ends, wrapping, the operations, bit by bit too. No condition. Texts of lines: plainly, a text tells its lines, and lines tell which functions there are, if heads have a colon and no other line has. No condition. Decimal digits: which bytes they are, and that they tell the number. No condition. Contracts of package num's least, greatest, fits, Fits. Conditions: a type has 1 to 31 bits. The text of a type: which bytes it has, and that it tells the type. No condition. -/
import Derived.Test.YtmmnhbhnjiajhaaGreatDoorSLex
import Derived.Test.YtmmnhbhnjiajhaaGreatDoorSLib
import Derived.Test.YtmmnhbhnjiajhaaGreatDoorSNum
import Derived.StillTailTactics
import Derived.Deep.RegionHeld3
import Derived.WalkKit
import Derived.Laws.BitsAllLaws
import Derived.Lib.ItoaNum
namespace Go.Proofs.YtmmnhbhnjiajhaaGreatDoor.c
open Go.RowKit
set_option linter.unusedVariables false
set_option maxRecDepth 100000
set_option maxHeartbeats 1600000
set_option linter.unusedSimpArgs false

/-! ### first -/
def mt (L:List UInt8) (a:Nat) (g:List UInt8):Bool:=decide (a + g.length ≤ L.length) && ((L.drop a).take g.length == g)
def fst3 (L:List UInt8) (a:Nat):Int × Nat × Bool :=
 match L[a]? with
 | none=>(0,0,false)
 | some c =>
  if isLet c.toNat then (0,a + ((L.drop a).takeWhile okB).length,true)
  else if isDig c.toNat then (1,a + ((L.drop a).takeWhile okB).length,true)
  else if c.toNat=64 then
   match L[a + 1]? with
   | none=>(0,0,false)
   | some d=>if isLet d.toNat then (3,a + 1 + ((L.drop (a + 1)).takeWhile okB).length,true) else (0,0,false)
  else match signsB.find? (fun g=>mt L a g.data.toList) with
   | none=>(0,0,false)
   | some g=>(2,a + g.size,true)
structure Tok where
 kind:Int
 at_:Nat
 text:ByteArray
def Tok.cells (t:Tok):List Value:=[.int .i64 t.kind,.int .i64 t.at_,.string t.text]
def blank (c:Nat):Bool:=c == 32 || c == 10
theorem fst3_gt {L:List UInt8} {a:Nat} (h:(fst3 L a).2.2=true):a < (fst3 L a).2.1∧(fst3 L a).2.1 ≤ L.length:=by
 unfold fst3 at h ⊢
 cases hc:L[a]? with
 | none=>rw [hc] at h; cases h
 | some c =>
  obtain ⟨hlt,hce⟩:=List.getElem?_eq_some_iff.1 hc
  rw [hc] at h
  simp only [] at h ⊢
  have htw:∀ b,((L.drop b).takeWhile okB).length ≤ L.length - b:=fun b=>by
   have:=(List.takeWhile_prefix okB (l:=L.drop b)).length_le
   rwa [List.length_drop] at this
  have hpos:∀ b (d:UInt8),L[b]?=some d → okB d=true → 0 < ((L.drop b).takeWhile okB).length:=fun b d hd ho=>by
   obtain ⟨hb,he⟩:=List.getElem?_eq_some_iff.1 hd
   rw [List.drop_eq_getElem_cons hb,he]
   simp [ho]
  by_cases h1:isLet c.toNat=true
  ·rw [if_pos h1] at h ⊢
   have:=hpos a c hc (by unfold okB; rw [h1]; rfl)
   have:=htw a
   simp only []
   omega
  ·rw [if_neg h1] at h ⊢
   by_cases h2:isDig c.toNat=true
   ·rw [if_pos h2] at h ⊢
    have:=hpos a c hc (by unfold okB; rw [h2,Bool.or_true])
    have:=htw a
    simp only []
    omega
   ·rw [if_neg h2] at h ⊢
    by_cases h3:c.toNat=64
    ·rw [if_pos h3] at h ⊢
     cases hd:L[a + 1]? with
     | none=>rw [hd] at h; cases h
     | some d =>
      rw [hd] at h
      simp only [] at h ⊢
      by_cases h4:isLet d.toNat=true
      ·rw [if_pos h4] at h ⊢
       have:=hpos (a + 1) d hd (by unfold okB; rw [h4]; rfl)
       have:=htw (a + 1)
       obtain ⟨h5,_⟩:=List.getElem?_eq_some_iff.1 hd
       simp only []
       omega
      ·rw [if_neg h4] at h; cases h
    ·rw [if_neg h3] at h ⊢
     cases hf:signsB.find? (fun g=>mt L a g.data.toList) with
     | none=>rw [hf] at h; cases h
     | some g =>
      have hm:=List.find?_some hf
      have hg:∀ g ∈ signsB,0 < g.size:=by decide +kernel
      have:=hg g (List.mem_of_find?_eq_some hf)
      unfold mt at hm
      simp only [Bool.and_eq_true,decide_eq_true_eq,← Lib.size_eq] at hm
      simp only []
      omega
def toks (s:ByteArray) (a:Nat) (acc:List Tok):List Tok × Nat × Bool :=
 if h:a < s.size then
  if blank (s[a]'h).toNat then toks s (a + 1) acc
  else
   match hf:(fst3 s.data.toList a).2.2 with
   | false=>([],a,false)
   | true=>toks s (fst3 s.data.toList a).2.1 (acc ++ [⟨(fst3 s.data.toList a).1,a,s.extract a (fst3 s.data.toList a).2.1⟩])
 else (acc,0,true)
termination_by s.size - a
decreasing_by
 ·omega
 ·have:=(fst3_gt hf).1; omega
theorem toks_end {s:ByteArray} {a:Nat} {acc:List Tok} (h:¬ a < s.size):toks s a acc=(acc,0,true):=by rw [toks,dif_neg h]
theorem toks_blank {s:ByteArray} {a:Nat} {acc:List Tok} (h:a < s.size) (hb:blank (s[a]'h).toNat=true):toks s a acc=toks s (a + 1) acc:=by rw [toks,dif_pos h,if_pos hb]
theorem toks_no {s:ByteArray} {a:Nat} {acc:List Tok} (h:a < s.size) (hb:blank (s[a]'h).toNat=false) (hf:(fst3 s.data.toList a).2.2=false):toks s a acc=([],a,false):=by
 rw [toks,dif_pos h,if_neg (by rw [hb]; decide)]
 split
 ·rfl
 ·rename_i h1; rw [hf] at h1; cases h1
theorem toks_yes {s:ByteArray} {a:Nat} {acc:List Tok} (h:a < s.size) (hb:blank (s[a]'h).toNat=false) (hf:(fst3 s.data.toList a).2.2=true) :
  toks s a acc=toks s (fst3 s.data.toList a).2.1 (acc ++ [⟨(fst3 s.data.toList a).1,a,s.extract a (fst3 s.data.toList a).2.1⟩]):=by
 rw [toks,dif_pos h,if_neg (by rw [hb]; decide)]
 split
 ·rename_i h1; rw [hf] at h1; cases h1
 ·rfl

theorem Tryz.infoTok:(Tryz.prog.info? 84).map (fun i=>(i.zero,i.size,i.bytes))=some (some (.agg #[.int .i64 0,.int .i64 0,.string ⟨#[]⟩]),3,32):=by kernel_rfl


/-! ### the plain law: one token of kind 0 that is the whole text is a word -/
/-! ### reading the name of a type of numbers -/
def isNameS (s:ByteArray):Bool:=decide (s.size ≤ 8) && wordS s.data.toList && !keyS s && (readE s.data.toList).2.2 != 0

theorem isName_any (s:ByteArray) (w:World) (g:Laid w) :
  Calls Tryz.prog 86 #[.string s] w fun e w'=>e=.returned (.bool (isNameS s))∧Ext w w':=by
 by_cases h8:8 < (s.size:Int)
 ·have HS:=Lib.hid (show isNameS s=false by unfold isNameS; rw [decide_eq_false (by omega)]; rfl)
  go_enter Tryz.func86,Tryz.ntmps86
  go_wp2_with fail
  go_ret
  exact ⟨ret_bool HS.out.symm,exO⟩
 ·have HS:=Lib.hid (show isNameS s=(wordS s.data.toList && !keyS s && (readE s.data.toList).2.2 != 0) by unfold isNameS; rw [decide_eq_true (by omega)]; rfl)
  go_enter Tryz.func86,Tryz.ntmps86
  go_wp2_with (first
   | (go_at_call 136; refine (isWord_any s _ (by omega)).mono ?_; rintro e w1 ⟨rfl,x1⟩)
   | (go_at_call 137; refine (isKey_any s _ (g.ext exO)).mono ?_; rintro e w2 ⟨rfl,x2⟩)
   | (go_at_call 138; refine (numRead_any s _ (by omega)).mono ?_; rintro e w3 ⟨rfl,x3⟩))
  all_goals
   go_ret
   exact ⟨ret_bool (by rw [HS.out]; simp [*]),exO⟩

structure Ty where
 base:Int
 bits:Int
 name:ByteArray
 opt:Bool
 err:Bool
instance:Inhabited Ty:=⟨⟨0,0,⟨#[]⟩,false,false⟩⟩
def emp (s:ByteArray):Bool:=s.toList.isEmpty
def bitsOk (b:Int):Bool:=decide (1 ≤ b) && decide (b ≤ 31)
def isTypeS (t:Ty):Bool :=
 if t.base=2 ∨ t.base=3 then bitsOk t.bits && emp t.name
 else if t.base=5 then t.bits == 0 && isNameS t.name
 else if t.base=0 then t.bits == 0 && emp t.name && !t.opt
 else if t.base=4 then t.bits == 0 && emp t.name && !t.opt && !t.err
 else t.base == 1 && t.bits == 0 && emp t.name

theorem isNumbers_any (b:Int) (w:World) :
  Calls Tryz.prog 94 #[.int .i64 b] w fun e w'=>e=.returned (.bool (b == 2 || b == 3))∧w=w':=by
 go_enter Tryz.func94,Tryz.ntmps94
 go_wp2
 all_goals (go_ret; exact ⟨by simp [*],rfl⟩)
theorem intOf_any (a b:Int) (n:ByteArray) (o e:Bool) (w:World) :
  Calls Tryz.prog 140 #[.agg #[.int .i64 a,.int .i64 b,.string n,.bool o,.bool e]] w fun r w'=>r=.returned (.agg #[.bool (a == 3),.int .i64 b])∧Ext w w':=by
 go_enter Tryz.func140,Tryz.ntmps140
 go_wp2
 exact bodyPost_ret (v:=.agg #[.bool (a == 3),.int .i64 b]) (by simp [results,Tryz.results140,go_sem]) rfl ⟨rfl,exO⟩
theorem vInt_ok (b:Int):(vInt b == 0)=bitsOk b:=by
 unfold vInt bitsOk
 by_cases h:b < 1 ∨ 31 < b
 ·rw [if_pos h,Bool.eq_iff_iff]; simp; omega
 ·rw [if_neg h,Bool.eq_iff_iff]; simp; omega
theorem isType_aux (a b:Int) (n:ByteArray) (o e:Bool) (w:World) (g:Laid w) (em:Bool) (he:emp n=em) (hne:n.toList.isEmpty=em) :
  Calls Tryz.prog 87 #[.agg #[.int .i64 a,.int .i64 b,.string n,.bool o,.bool e]] w fun r w'=>r=.returned (.bool (isTypeS ⟨a,b,n,o,e⟩))∧Ext w w':=by
 have HE:=Lib.hid he
 clear he
 cases em
 all_goals
    by_cases h23:a=2 ∨ a=3
    ·have hbn:((a == 2) || (a == 3))=true:=by rcases h23 with rfl | rfl <;> rfl
     have hS:=Lib.hid (show isTypeS ⟨a,b,n,o,e⟩=(vInt b == 0 && emp n) by unfold isTypeS; rw [if_pos h23,vInt_ok])
     rcases h23 with rfl | rfl
     all_goals
      cases o <;> cases e
      all_goals
       go_enter Tryz.func87,Tryz.ntmps87
       go_wp2_with (first
        | (go_at_call 94; refine (isNumbers_any _ _).mono ?_; rw [hbn]; rintro e w' ⟨rfl,rfl⟩)
        | (go_at_call 140; refine (intOf_any _ _ _ _ _ _).mono ?_; rintro e w1 ⟨rfl,x1⟩; have y1:=x1.facts; have z1:=x1.z0)
        | (go_at_call 139; refine (numValidate_any _ _ _).mono ?_; rintro e w2 ⟨rfl,x2⟩; have y2:=x2.facts))
       all_goals
        go_ret
        exact ⟨ret_bool (by rw [hS.out]; simp [HE.out, *] <;> omega),exO⟩
    ·have hbn:((a == 2) || (a == 3))=false:=by rw [Bool.eq_false_iff]; intro h; simp at h; exact h23 h
     have hcase:a=5 ∨ a=0 ∨ a=4 ∨ a=1 ∨ a < 0 ∨ 5 < a:=by omega
     rcases hcase with rfl | rfl | rfl | rfl | ha | ha
     case inl =>
      have hS:=Lib.hid (show isTypeS ⟨5,b,n,o,e⟩=(b == 0 && isNameS n) by rfl)
      clear h23
      cases o <;> cases e
      all_goals
       go_enter Tryz.func87,Tryz.ntmps87
       go_wp2_with (first
        | (go_at_call 94; refine (isNumbers_any _ _).mono ?_; rw [hbn]; rintro e w' ⟨rfl,rfl⟩)
        | (go_at_call 86; refine (isName_any _ _ (g.ext exO)).mono ?_; rintro e w1 ⟨rfl,x1⟩; have y1:=x1.facts; have z1:=x1.z0))
       all_goals
        go_ret
        exact ⟨ret_bool (by rw [hS.out]; simp [*]),exO⟩
     case inr.inr.inr.inr.inl =>
      have hS:=Lib.hid (show isTypeS ⟨a,b,n,o,e⟩=false by
       unfold isTypeS; rw [if_neg h23,if_neg (show ¬ a=5 by omega),if_neg (show ¬ a=0 by omega),if_neg (show ¬ a=4 by omega)]
       have:(a == 1)=false:=by rw [beq_eq_false_iff_ne]; omega
       simp [this])
      clear h23
      go_enter Tryz.func87,Tryz.ntmps87
      go_wp2_with fail
      go_ret
      exact ⟨ret_bool hS.out.symm,exO⟩
     case inr.inr.inr.inr.inr =>
      have hS:=Lib.hid (show isTypeS ⟨a,b,n,o,e⟩=false by
       unfold isTypeS; rw [if_neg h23,if_neg (show ¬ a=5 by omega),if_neg (show ¬ a=0 by omega),if_neg (show ¬ a=4 by omega)]
       have:(a == 1)=false:=by rw [beq_eq_false_iff_ne]; omega
       simp [this])
      clear h23
      go_enter Tryz.func87,Tryz.ntmps87
      go_wp2_with fail
      go_ret
      exact ⟨ret_bool hS.out.symm,exO⟩
     all_goals
      clear h23
      cases o <;> cases e
      all_goals
       go_enter Tryz.func87,Tryz.ntmps87
       go_wp2_with (first
        | (go_at_call 94; refine (isNumbers_any _ _).mono ?_; rw [hbn]; rintro e w' ⟨rfl,rfl⟩))
       all_goals
        go_ret
        exact ⟨ret_bool (by unfold isTypeS; simp [HE.out, *] <;> omega),exO⟩
theorem isType_any (a b:Int) (n:ByteArray) (o e:Bool) (w:World) (g:Laid w) :
  Calls Tryz.prog 87 #[.agg #[.int .i64 a,.int .i64 b,.string n,.bool o,.bool e]] w fun r w'=>r=.returned (.bool (isTypeS ⟨a,b,n,o,e⟩))∧Ext w w' :=
 isType_aux a b n o e w g (emp n) rfl rfl

structure Cd where
 op:Int
 a:Int
 b:Int
 ty:Ty
 name:ByteArray
instance:Inhabited Cd:=⟨⟨0,0,0,default,⟨#[]⟩⟩⟩
structure Fc where
 name:ByteArray
 params:Int
 places:Int
 ty:Ty
 A:Option Addr
 cap:Nat
 code:List Cd
instance:Inhabited Fc:=⟨⟨⟨#[]⟩,0,0,default,none,0,[]⟩⟩
def cdC (x:Cd):Nat → Value
 | 0=>.int .i64 x.op
 | 1=>.int .i64 x.a
 | 2=>.int .i64 x.b
 | 3=>.int .i64 x.ty.base
 | 4=>.int .i64 x.ty.bits
 | 5=>.string x.ty.name
 | 6=>.bool x.ty.opt
 | 7=>.bool x.ty.err
 | _=>.string x.name
def fcC (f:Fc):Nat → Value
 | 0=>.string f.name
 | 1=>.int .i64 f.params
 | 2=>.int .i64 f.places
 | 3=>.int .i64 f.ty.base
 | 4=>.int .i64 f.ty.bits
 | 5=>.string f.ty.name
 | 6=>.bool f.ty.opt
 | 7=>.bool f.ty.err
 | _=>.slice f.A f.code.length f.cap
def CdAt (w:World) (A:Option Addr) (l:List Cd):Prop:=At w A l.length 9 (fun i j=>cdC (l.getD i default) j)
structure FcAt (w:World) (A:Option Addr) (l:List Fc):Prop where
 top:At w A l.length 9 (fun i j=>fcC (l.getD i default) j)
 sub:∀ f,f ∈ l → CdAt w f.A f.code
theorem CdAt.ext {w w':World} {A:Option Addr} {l:List Cd} (h:CdAt w A l) (x:Ext w w'):CdAt w' A l:=At.ext h x
theorem FcAt.ext {w w':World} {A:Option Addr} {l:List Fc} (h:FcAt w A l) (x:Ext w w'):FcAt w' A l:=⟨At.ext h.top x,fun f hf=>(h.sub f hf).ext x⟩
theorem getD_mem {α:Type} [Inhabited α] {l:List α} {k:Nat} (h:k < l.length):l.getD k default ∈ l:=by
 rw [List.getD,List.getElem?_eq_getElem h]
 exact List.getElem_mem h
theorem FcAt.at_ {w:World} {A:Option Addr} {l:List Fc} (h:FcAt w A l) {k:Nat} (hk:k < l.length) {f:Fc} (hf:f=l.getD k default) :
  ∃ b off,A=some ⟨b,off,none⟩∧b < w.heap.size∧w.cell? ⟨b,off + k * 9,none⟩=some (.string f.name)∧w.cell? ⟨b,off + k * 9 + 1,none⟩=some (.int .i64 f.params)∧w.cell? ⟨b,off + k * 9 + 2,none⟩=some (.int .i64 f.places) ∧
   w.cell? ⟨b,off + k * 9 + 3,none⟩=some (.int .i64 f.ty.base)∧w.cell? ⟨b,off + k * 9 + 4,none⟩=some (.int .i64 f.ty.bits)∧w.cell? ⟨b,off + k * 9 + 5,none⟩=some (.string f.ty.name)∧w.cell? ⟨b,off + k * 9 + 6,none⟩=some (.bool f.ty.opt) ∧
   w.cell? ⟨b,off + k * 9 + 7,none⟩=some (.bool f.ty.err)∧w.cell? ⟨b,off + k * 9 + 8,none⟩=some (.slice f.A f.code.length f.cap)∧CdAt w f.A f.code:=by
 subst hf
 obtain ⟨b,off,rfl,hb,h0,h1,h2,h3,h4,h5,h6,h7,h8⟩:=h.top.nine hk
 exact ⟨b,off,rfl,hb,h0,h1,h2,h3,h4,h5,h6,h7,h8,h.sub _ (getD_mem hk)⟩
theorem CdAt.at_ {w:World} {A:Option Addr} {l:List Cd} (h:CdAt w A l) {k:Nat} (hk:k < l.length) {x:Cd} (hx:x=l.getD k default) :
  ∃ b off,A=some ⟨b,off,none⟩∧b < w.heap.size∧w.cell? ⟨b,off + k * 9,none⟩=some (.int .i64 x.op)∧w.cell? ⟨b,off + k * 9 + 1,none⟩=some (.int .i64 x.a)∧w.cell? ⟨b,off + k * 9 + 2,none⟩=some (.int .i64 x.b) ∧
   w.cell? ⟨b,off + k * 9 + 3,none⟩=some (.int .i64 x.ty.base)∧w.cell? ⟨b,off + k * 9 + 4,none⟩=some (.int .i64 x.ty.bits)∧w.cell? ⟨b,off + k * 9 + 5,none⟩=some (.string x.ty.name)∧w.cell? ⟨b,off + k * 9 + 6,none⟩=some (.bool x.ty.opt) ∧
   w.cell? ⟨b,off + k * 9 + 7,none⟩=some (.bool x.ty.err)∧w.cell? ⟨b,off + k * 9 + 8,none⟩=some (.string x.name):=by
 subst hx
 exact At.nine h hk
def Fc.val (f:Fc):Value:=.agg #[.string f.name,.int .i64 f.params,.int .i64 f.places,.int .i64 f.ty.base,.int .i64 f.ty.bits,.string f.ty.name,.bool f.ty.opt,.bool f.ty.err,.slice f.A f.code.length f.cap]
def Cd.val (x:Cd):Value:=.agg #[.int .i64 x.op,.int .i64 x.a,.int .i64 x.b,.int .i64 x.ty.base,.int .i64 x.ty.bits,.string x.ty.name,.bool x.ty.opt,.bool x.ty.err,.string x.name]

def tz (t:Ty):Bool:=t.base == 0 && (t.bits == 0 && (emp t.name && (!t.opt && !t.err)))
def isPlainS (t:Ty):Bool:=isTypeS t && !t.opt && !t.err
theorem run_tz_eql (t:Ty) (w:World):(binOp .eql 32 (.agg #[.int .i64 t.base,.int .i64 t.bits,.string t.name,.bool t.opt,.bool t.err]) (.agg #[.int .i64 0,.int .i64 0,.string ⟨#[]⟩,.bool false,.bool false])).run Tryz.prog w=.ok (.bool (tz t)) w:=by
 obtain ⟨a,b,n,o,e⟩:=t
 go_simp
 unfold tz emp
 by_cases h1:a=0
 ·by_cases h2:b=0
  ·by_cases h3:n.toList=[]
   ·cases o <;> cases e <;> simp [h1,h2,h3]
   ·simp [h1,h2,h3]
  ·simp [h1,h2]
 ·simp [h1]

def spanI (b:Int):Int:=2 ^ b.toNat
def loI (s:Bool) (b:Int):Int:=if s=true then -(spanI b / 2) else 0
def hiI (s:Bool) (b:Int):Int:=if s=true then spanI b / 2 - 1 else spanI b - 1
def fitI (s:Bool) (b n:Int):Bool:=decide (loI s b ≤ n) && decide (n ≤ hiI s b)
theorem span_parts {b:Int} (h1:1 ≤ b) (h2:b ≤ 31):∃ q:Int,spanI b=2 * q∧1 ≤ q∧q ≤ 1073741824∧q=2 ^ (b - 1).toNat:=by
 have e:b.toNat=(b - 1).toNat + 1:=by omega
 refine ⟨2 ^ (b - 1).toNat,?_,?_,?_,rfl⟩
 ·unfold spanI
  rw [e,Int.pow_succ]
  omega
 ·exact Int.pow_pos (by decide)
 ·have h:(b - 1).toNat ≤ 30:=by omega
  have h2:(2:Int) ^ (b - 1).toNat ≤ 2 ^ 30:=by
   have:=Nat.pow_le_pow_right (n:=2) (by decide) h
   exact_mod_cast this
  simpa using h2
/-! ### bit by bit -/
/-! ### the operations -/

theorem least_any (s:Bool) (b:Int) (w:World) (h1:1 ≤ b) (h2:b ≤ 31) :
  Calls Tryz.prog 253 #[.agg #[.bool s,.int .i64 b]] w fun e w'=>e=.returned (.int .i64 (loI s b))∧Ext w w':=by
 obtain ⟨q,e,q1,q2,eq⟩:=span_parts h1 h2
 have hq:(2:Int) ^ (b.toNat - 1)=q:=by rw [show b.toNat - 1=(b - 1).toNat by omega]; exact eq.symm
 have HL:Hid (loI s b=if s=true then -q else 0):=by unfold Hid loI; rw [e]; split <;> omega
 clear e eq
 cases s
 all_goals
  go_enter Tryz.func253,Tryz.ntmps253
  go_wp2_with fail
  go_ret
  exact ⟨ret_int (by rw [HL.out]; simp),exO⟩
theorem greatest_any (s:Bool) (b:Int) (w:World) (h1:1 ≤ b) (h2:b ≤ 31) :
  Calls Tryz.prog 254 #[.agg #[.bool s,.int .i64 b]] w fun e w'=>e=.returned (.int .i64 (hiI s b))∧Ext w w':=by
 obtain ⟨q,e,q1,q2,eq⟩:=span_parts h1 h2
 have hq:(2:Int) ^ (b.toNat - 1)=q:=by rw [show b.toNat - 1=(b - 1).toNat by omega]; exact eq.symm
 have hp:(2:Int) ^ b.toNat=2 * q:=e
 have HL:Hid (hiI s b=if s=true then q - 1 else 2 * q - 1):=by unfold Hid hiI; rw [e]; split <;> omega
 clear e eq
 cases s
 all_goals
  go_enter Tryz.func254,Tryz.ntmps254
  go_wp2_with fail
  go_ret
  exact ⟨ret_int (by rw [HL.out]; simp),exO⟩
theorem fits_any (s:Bool) (b n:Int) (w:World) (h1:1 ≤ b) (h2:b ≤ 31) :
  Calls Tryz.prog 235 #[.agg #[.bool s,.int .i64 b],.int .i64 n] w fun e w'=>e=.returned (.bool (fitI s b n))∧Ext w w':=by
 have HF:=Lib.hid (show fitI s b n=(decide (loI s b ≤ n) && decide (n ≤ hiI s b)) from rfl)
 go_enter Tryz.func235,Tryz.ntmps235
 go_wp2_with (first
  | (go_at_call 253; refine (least_any s b _ h1 h2).mono ?_; rintro r w1 ⟨rfl,x1⟩; have y1:=x1.facts; have z1:=x1.z0)
  | (go_at_call 254; refine (greatest_any s b _ h1 h2).mono ?_; rintro r w2 ⟨rfl,x2⟩; have y2:=x2.facts; have z2:=x2.size))
 all_goals
  go_ret
  exact ⟨ret_bool (by rw [HF.out]; first | (simp [*]; done) | (simp [*]; intros; omega)),exO⟩
theorem vInt_zero {b:Int} (h1:1 ≤ b) (h2:b ≤ 31):vInt b=0:=by unfold vInt; rw [if_neg (by omega)]
theorem nFits_any (s:Bool) (b n:Int) (w:World) (h1:1 ≤ b) (h2:b ≤ 31) :
  Calls Tryz.prog 202 #[.agg #[.bool s,.int .i64 b],.int .i64 n] w fun e w'=>e=.returned (.tuple #[.bool (fitI s b n),.int .i64 0])∧Ext w w':=by
 have HV:=Lib.hid (vInt_zero h1 h2)
 go_enter Tryz.func202,Tryz.ntmps202
 go_wp2_with (first
  | (go_at_call 139; refine (numValidate_any s b _).mono ?_; rw [HV.out]; rintro r w1 ⟨rfl,x1⟩; have y1:=x1.facts; have z1:=x1.z0)
  | (go_at_call 235; refine (fits_any s b n _ h1 h2).mono ?_; rintro r w2 ⟨rfl,x2⟩; have y2:=x2.facts; have z2:=x2.size))
 go_ret2
 exact ⟨rfl,exO⟩
end Go.Proofs.YtmmnhbhnjiajhaaGreatDoor.c
