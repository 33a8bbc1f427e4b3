/- Programs as plain data, and the grammar as one plain function on tokens. No condition. -/
import Derived.Test.YtmmnhbhnjiajhaaGreatDoorSRlex
namespace Go.Proofs.YtmmnhbhnjiajhaaGreatDoor.c
open Go.RowKit
set_option linter.unusedVariables false
set_option linter.unusedSimpArgs false
inductive Nd where
 | nil
 | ex (op:Int) (ty:Ty) (nm:ByteArray) (n:Int) (args body tl:Nd)
 | st (op:Int) (nm:ByteArray) (ty:Ty) (es bs cs tl:Nd)
 | bl (body tl:Nd)
 | ca (lo hi:Int) (body tl:Nd)
 | pa (nm:ByteArray) (ty:Ty) (kn:Bool) (tl:Nd)
 | de (fn:Bool) (nm:ByteArray) (ps:Nd) (ty:Ty) (val body tl:Nd)
def Nd.app:Nd → Nd → Nd
 | .nil,y=>y
 | .ex o t n k a b tl,y=>.ex o t n k a b (tl.app y)
 | .st o n t a b c tl,y=>.st o n t a b c (tl.app y)
 | .bl b tl,y=>.bl b (tl.app y)
 | .ca l h b tl,y=>.ca l h b (tl.app y)
 | .pa n t k tl,y=>.pa n t k (tl.app y)
 | .de f n p t v b tl,y=>.de f n p t v b (tl.app y)
def Nd.len:Nd → Nat
 | .nil=>0
 | .ex _ _ _ _ _ _ tl=>tl.len + 1
 | .st _ _ _ _ _ _ tl=>tl.len + 1
 | .bl _ tl=>tl.len + 1
 | .ca _ _ _ tl=>tl.len + 1
 | .pa _ _ _ tl=>tl.len + 1
 | .de _ _ _ _ _ _ tl=>tl.len + 1
theorem app_len:∀ x y:Nd,(x.app y).len=x.len + y.len
 | .nil,y=>by rw [Nd.app,Nd.len]; omega
 | .ex o t n k a b tl,y=>by rw [Nd.app,Nd.len,Nd.len,app_len tl]; omega
 | .st o n t a b c tl,y=>by rw [Nd.app,Nd.len,Nd.len,app_len tl]; omega
 | .bl b tl,y=>by rw [Nd.app,Nd.len,Nd.len,app_len tl]; omega
 | .ca l h b tl,y=>by rw [Nd.app,Nd.len,Nd.len,app_len tl]; omega
 | .pa n t k tl,y=>by rw [Nd.app,Nd.len,Nd.len,app_len tl]; omega
 | .de f n p t v b tl,y=>by rw [Nd.app,Nd.len,Nd.len,app_len tl]; omega
def tx (L:List Tok) (a:Nat):ByteArray:=((L[a]?).map Tok.text).getD ⟨#[]⟩
def kd_ (L:List Tok) (a:Nat):Int:=((L[a]?).map Tok.kind).getD (-1)
def isW (L:List Tok) (a:Nat):Bool:=kd_ L a == 0 && isNameS (tx L a)
def tZ:Ty:=⟨0,0,⟨#[]⟩,false,false⟩
def tBo:Ty:=⟨1,0,⟨#[]⟩,false,false⟩
def baseS (s:ByteArray):Ty × Bool :=
 if s=⟨#[118,111,105,100]⟩ then (tZ,true) else if s=⟨#[98,111,111,108]⟩ then (tBo,true) else if s=⟨#[116,121,112,101]⟩ then (⟨4,0,⟨#[]⟩,false,false⟩,true)
 else match readS s.data.toList with
  | some (sg,m)=>(⟨if sg then 3 else 2,m,⟨#[]⟩,false,false⟩,true)
  | none=>(⟨5,0,s,false,false⟩,isNameS s)
def alS (v b t n:Bool) (x:Int):Bool:=if x=0 then v else if x=1 then b else if x=4 then t else if x=5 then n else true
def typS (L:List Tok) (a:Nat) (e o v b t n:Bool):Except Nat (Ty × Nat) :=
 let er:=e && decide (tx L a=⟨#[33]⟩)
 let a1:=if er then a + 1 else a
 let op:=o && decide (tx L a1=⟨#[63]⟩)
 let a2:=if op then a1 + 1 else a1
 let ty:Ty:=⟨(baseS (tx L a2)).1.base,(baseS (tx L a2)).1.bits,(baseS (tx L a2)).1.name,op,er⟩
 if kd_ L a2=0∧(baseS (tx L a2)).2=true∧isTypeS ty=true∧alS v b t n ty.base=true then .ok (ty,a2 + 1) else .error a2
def isDg (c:UInt8):Bool:=isDig c.toNat
def decS (l:List UInt8):Nat:=l.foldl (fun n c=>10 * n + (c.toNat - 48)) 0
def digS (l:List UInt8):Bool:=decide (l.length ≤ 10) && (decide (l.length=1) || l.head? != some 48)
def isNumS (t:Ty) (n:Int):Bool :=
 isPlainS t && (if t.base=1 then n == 0 || n == 1 else if t.base=5 then decide (-1073741824 ≤ n) && decide (n < 1073741824)
  else (t.base == 2 || t.base == 3) && fitI (t.base == 3) t.bits n)
def litS (s:ByteArray) (neg:Bool):Option Nd :=
 let ds:=s.data.toList.takeWhile isDg
 let r:=baseS ⟨(s.data.toList.dropWhile isDg).toArray⟩
 let n:Int:=if neg then -(decS ds:Int) else decS ds
 if r.2=true∧digS ds=true∧(r.1.base=2 ∨ r.1.base=3 ∨ r.1.base=5)∧isNumS r.1 n=true then some (.ex 0 r.1 ⟨#[]⟩ n .nil .nil .nil) else none
def cnumS (L:List Tok) (a:Nat) (lo:Int):Except Nat (Int × Nat) :=
 let m:=decide (tx L a=⟨#[45]⟩)
 let a1:=if m then a + 1 else a
 let l:=(tx L a1).data.toList
 let n:Int:=if m then -(decS l:Int) else decS l
 if kd_ L a1=1∧digS l=true∧l.all isDg=true∧lo ≤ n∧n ≤ 2147483648 then .ok (n,a1 + 1) else .error a1
inductive Rs where
 | ok (x:Nd) (a:Nat)
 | bad (a:Nat)
def thn (r:Option Rs) (f:Nd → Nat → Option Rs):Option Rs:=match r with
 | none=>none
 | some (.bad k)=>some (.bad k)
 | some (.ok x a)=>f x a
def thnT {α:Type} (r:Except Nat (α × Nat)) (f:α → Nat → Option Rs):Option Rs:=match r with
 | .error k=>some (.bad k)
 | .ok (x,a)=>f x a
def thnO (o:Option Nd) (a:Nat) (f:Nd → Option Rs):Option Rs:=match o with
 | none=>some (.bad a)
 | some x=>f x
def wnt (L:List Tok) (a:Nat) (s:ByteArray) (r:Option Rs):Option Rs:=if tx L a=s then r else some (.bad a)
def nam (L:List Tok) (a:Nat) (r:Option Rs):Option Rs:=if isW L a=true then r else some (.bad a)
inductive Nt where
 | lvl (k:Nat)
 | ops (k:Nat) (turn:Bool) (x:Nd)
 | un
 | post (x:Nd)
 | prim
 | args (acc:Nd)
 | blk
 | sts (acc:Nd)
 | stm
 | css (acc:Nd)
def opsT:List (List (ByteArray × Int)):=[[(⟨#[99,97,116,99,104]⟩,33),(⟨#[111,114,101,108,115,101]⟩,31)],[(⟨#[111,114]⟩,25)],[(⟨#[97,110,100]⟩,24)],[(⟨#[61,61]⟩,18),(⟨#[33,61]⟩,19),(⟨#[60]⟩,20),(⟨#[60,61]⟩,21),(⟨#[62]⟩,22),(⟨#[62,61]⟩,23)],[(⟨#[38]⟩,15),(⟨#[124]⟩,16),(⟨#[94]⟩,17)],
 [(⟨#[43]⟩,5),(⟨#[45]⟩,6),(⟨#[43,37]⟩,10),(⟨#[45,37]⟩,11),(⟨#[43,124]⟩,13),(⟨#[45,124]⟩,14)],[(⟨#[42]⟩,7),(⟨#[47]⟩,8),(⟨#[37]⟩,9),(⟨#[42,37]⟩,12)]]
def opS (k:Nat) (s:ByteArray):Option Int:=((opsT.getD k []).find? (fun p=>decide (p.1=s))).map Prod.snd
def exN (op:Int) (args:Nd):Nd:=.ex op tZ ⟨#[]⟩ 0 args .nil .nil
def stN (op:Int) (nm:ByteArray) (ty:Ty) (es bs cs:Nd):Nd:=.st op nm ty es bs cs .nil
section
variable (L:List Tok) (P:Nt → Nat → Option Rs)
def parS (a:Nat) (f:Nd → Nat → Option Rs):Option Rs:=wnt L a ⟨#[40]⟩ (thn (P (.lvl 0) (a + 1)) fun x b=>wnt L b ⟨#[41]⟩ (f x (b + 1)))
def valS (a:Nat) (f:Nd → Nat → Option Rs):Option Rs:=thn (P (.lvl 0) a) fun x b=>wnt L b ⟨#[59]⟩ (f x (b + 1))
def builtinS (a:Nat) (op:Int) (bo more:Bool):Option Rs :=
 wnt L a ⟨#[40]⟩ (thnT (typS L (a + 1) false false false bo false true) fun t b =>
  if more then wnt L b ⟨#[44]⟩ (thn (P (.lvl 0) (b + 1)) fun x c=>wnt L c ⟨#[41]⟩ (some (.ok (.ex op t ⟨#[]⟩ 0 x .nil .nil) (c + 1))))
  else wnt L b ⟨#[41]⟩ (some (.ok (.ex op t ⟨#[]⟩ 0 .nil .nil .nil) (b + 1))))
def primS (a:Nat):Option Rs :=
 if kd_ L a=1 then thnO (litS (tx L a) false) a fun x=>some (.ok x (a + 1))
 else if tx L a=⟨#[116,114,117,101]⟩ then some (.ok (.ex 0 tBo ⟨#[]⟩ 1 .nil .nil .nil) (a + 1))
 else if tx L a=⟨#[102,97,108,115,101]⟩ then some (.ok (.ex 0 tBo ⟨#[]⟩ 0 .nil .nil .nil) (a + 1))
 else if tx L a=⟨#[40]⟩ then parS L P a fun x b=>some (.ok x b)
 else if tx L a=⟨#[100,111]⟩ then thn (P .blk (a + 1)) fun b c=>some (.ok (.ex 35 tZ ⟨#[]⟩ 0 .nil b .nil) c)
 else if tx L a=⟨#[64,99,97,115,116]⟩ then builtinS L P (a + 1) 26 false true
 else if tx L a=⟨#[64,119,114,97,112]⟩ then builtinS L P (a + 1) 27 false true
 else if tx L a=⟨#[64,110,117,108,108]⟩ then builtinS L P (a + 1) 28 true false
 else if tx L a=⟨#[64,116,121,112,101]⟩ then builtinS L P (a + 1) 34 true false
 else if tx L a=⟨#[64,115,111,109,101]⟩ then parS L P (a + 1) fun x b=>some (.ok (exN 29 x) b)
 else nam L a (if tx L (a + 1)=⟨#[40]⟩ then
   (if tx L (a + 2)=⟨#[41]⟩ then some (.ok (.ex 2 tZ (tx L a) 0 .nil .nil .nil) (a + 3))
    else thn (P (.args .nil) (a + 2)) fun x b=>some (.ok (.ex 2 tZ (tx L a) 0 x .nil .nil) b))
  else some (.ok (.ex 1 tZ (tx L a) 0 .nil .nil .nil) (a + 1)))
def unrS (a:Nat):Option Rs :=
 if tx L a=⟨#[45]⟩∧kd_ L (a + 1)=1 then thnO (litS (tx L (a + 1)) true) (a + 1) fun x=>P (.post x) (a + 2)
 else if tx L a=⟨#[45]⟩ then thn (P .un (a + 1)) fun x b=>some (.ok (exN 3 x) b)
 else if tx L a=⟨#[33]⟩ then thn (P .un (a + 1)) fun x b=>some (.ok (exN 4 x) b)
 else if tx L a=⟨#[116,114,121]⟩ then thn (P .un (a + 1)) fun x b=>some (.ok (exN 32 x) b)
 else thn (P .prim a) fun x b=>P (.post x) b
def varS (a:Nat) (op:Int):Option Rs :=
 nam L a (wnt L (a + 1) ⟨#[58]⟩ (thnT (typS L (a + 2) true true false true false true) fun t b=>wnt L b ⟨#[61]⟩ (valS L P (b + 1) fun x c=>some (.ok (stN op (tx L a) t x .nil .nil) c))))
def loopS (a:Nat) (op:Int):Option Rs :=
 wnt L a ⟨#[40]⟩ (nam L (a + 1) (wnt L (a + 2) ⟨#[58]⟩ (thnT (typS L (a + 3) false false false false false true) fun t b=>wnt L b ⟨#[61]⟩ (thn (P (.lvl 0) (b + 1)) fun x c =>
  wnt L c ⟨#[46,46]⟩ (thn (P (.lvl 0) (c + 1)) fun y d=>wnt L d ⟨#[41]⟩ (thn (P .blk (d + 1)) fun z e=>some (.ok (stN op (tx L (a + 1)) t (x.app y) (.bl z .nil) .nil) e)))))))
def retS (a:Nat):Option Rs :=
 if tx L a=⟨#[59]⟩ then some (.ok (stN 4 ⟨#[]⟩ tZ .nil .nil .nil) (a + 1))
 else if tx L a=⟨#[101,114,114,111,114]⟩ then wnt L (a + 1) ⟨#[46]⟩ (nam L (a + 2) (wnt L (a + 3) ⟨#[59]⟩ (some (.ok (stN 5 (tx L (a + 2)) tZ .nil .nil .nil) (a + 4)))))
 else valS L P a fun x b=>some (.ok (stN 4 ⟨#[]⟩ tZ x .nil .nil) b)
def choiceS (a:Nat):Option Rs :=
 parS L P a fun x b=>wnt L b ⟨#[123]⟩ (thn (P (.css .nil) (b + 1)) fun cs c =>
  if tx L c=⟨#[101,108,115,101]⟩ then wnt L (c + 1) ⟨#[61,62]⟩ (thn (P .blk (c + 2)) fun z d=>wnt L d ⟨#[125]⟩ (some (.ok (stN 10 ⟨#[]⟩ tZ x (.bl z .nil) cs) (d + 1))))
  else wnt L c ⟨#[125]⟩ (some (.ok (stN 10 ⟨#[]⟩ tZ x .nil cs) (c + 1))))
def cssS (a:Nat) (acc:Nd):Option Rs :=
 if tx L a=⟨#[45]⟩ ∨ kd_ L a=1 then thnT (cnumS L a (-2147483648)) fun lo b=>thnT (if tx L b=⟨#[46,46]⟩ then cnumS L (b + 1) lo else .ok (lo,b)) fun hi c =>
  wnt L c ⟨#[61,62]⟩ (thn (P .blk (c + 1)) fun z d=>P (.css (acc.app (.ca lo hi z .nil))) d)
 else some (.ok acc a)
def stmS (a:Nat):Option Rs :=
 if tx L a=⟨#[118,97,114]⟩ then varS L P (a + 1) 0
 else if tx L a=⟨#[99,111,110,115,116]⟩ then varS L P (a + 1) 1
 else if tx L a=⟨#[95]⟩ then wnt L (a + 1) ⟨#[61]⟩ (valS L P (a + 2) fun x b=>some (.ok (stN 3 ⟨#[]⟩ tZ x .nil .nil) b))
 else if tx L a=⟨#[114,101,116,117,114,110]⟩ then retS L P (a + 1)
 else if tx L a=⟨#[103,105,118,101]⟩ then valS L P (a + 1) fun x b=>some (.ok (stN 16 ⟨#[]⟩ tZ x .nil .nil) b)
 else if tx L a=⟨#[105,102]⟩ then parS L P (a + 1) fun x b=>thn (P .blk b) fun y c =>
  if tx L c=⟨#[101,108,115,101]⟩ then thn (P .blk (c + 1)) fun z d=>some (.ok (stN 6 ⟨#[]⟩ tZ x (.bl y (.bl z .nil)) .nil) d)
  else some (.ok (stN 6 ⟨#[]⟩ tZ x (.bl y .nil) .nil) c)
 else if tx L a=⟨#[119,104,105,108,101]⟩ then parS L P (a + 1) fun x b=>thn (P .blk b) fun y c=>some (.ok (stN 7 ⟨#[]⟩ tZ x (.bl y .nil) .nil) c)
 else if tx L a=⟨#[102,111,114]⟩ then loopS L P (a + 1) 8
 else if tx L a=⟨#[105,110,108,105,110,101]⟩ then wnt L (a + 1) ⟨#[102,111,114]⟩ (loopS L P (a + 2) 9)
 else if tx L a=⟨#[115,119,105,116,99,104]⟩ then choiceS L P (a + 1)
 else if tx L a=⟨#[123]⟩ then thn (P .blk a) fun y c=>some (.ok (stN 11 ⟨#[]⟩ tZ .nil (.bl y .nil) .nil) c)
 else if tx L a=⟨#[100,101,102,101,114]⟩ then thn (P .blk (a + 1)) fun y c=>some (.ok (stN 12 ⟨#[]⟩ tZ .nil (.bl y .nil) .nil) c)
 else if tx L a=⟨#[101,114,114,100,101,102,101,114]⟩ then thn (P .blk (a + 1)) fun y c=>some (.ok (stN 13 ⟨#[]⟩ tZ .nil (.bl y .nil) .nil) c)
 else if tx L a=⟨#[98,114,101,97,107]⟩ then wnt L (a + 1) ⟨#[59]⟩ (some (.ok (stN 14 ⟨#[]⟩ tZ .nil .nil .nil) (a + 2)))
 else if tx L a=⟨#[99,111,110,116,105,110,117,101]⟩ then wnt L (a + 1) ⟨#[59]⟩ (some (.ok (stN 15 ⟨#[]⟩ tZ .nil .nil .nil) (a + 2)))
 else if tx L a=⟨#[117,110,114,101,97,99,104,97,98,108,101]⟩ then wnt L (a + 1) ⟨#[59]⟩ (some (.ok (stN 17 ⟨#[]⟩ tZ .nil .nil .nil) (a + 2)))
 else nam L a (wnt L (a + 1) ⟨#[61]⟩ (valS L P (a + 2) fun x b=>some (.ok (stN 2 (tx L a) tZ x .nil .nil) b)))
def stepG:Nt → Nat → Option Rs
 | .lvl k,a=>if k=7 then P .un a else thn (P (.lvl (k + 1)) a) fun x b=>P (.ops k false x) b
 | .ops k turn x,a=>if opS k (tx L a)=none ∨ (k=3∧turn=true) then some (.ok x a) else thn (P (.lvl (k + 1)) (a + 1)) fun y b=>P (.ops k true (exN ((opS k (tx L a)).getD 0) (x.app y))) b
 | .un,a=>unrS L P a
 | .post x,a=>if tx L a=⟨#[46,63]⟩ then P (.post (exN 30 x)) (a + 1) else some (.ok x a)
 | .prim,a=>primS L P a
 | .args acc,a=>thn (P (.lvl 0) a) fun x b=>if tx L b=⟨#[41]⟩ then some (.ok (acc.app x) (b + 1)) else wnt L b ⟨#[44]⟩ (P (.args (acc.app x)) (b + 1))
 | .blk,a=>wnt L a ⟨#[123]⟩ (P (.sts .nil) (a + 1))
 | .sts acc,a=>if tx L a=⟨#[125]⟩ then some (.ok acc (a + 1)) else thn (P .stm a) fun x b=>P (.sts (acc.app x)) b
 | .stm,a=>stmS L P a
 | .css acc,a=>cssS L P a acc
end
def gr (L:List Tok):Nat → Nt → Nat → Option Rs
 | 0,_,_=>none
 | n + 1,t,a=>stepG L (gr L n) t a
open Classical in
noncomputable def gram (L:List Tok) (t:Nt) (a:Nat):Option Rs:=if h:∃ n r,gr L n t a=some r then gr L (Classical.choose h) t a else none
def Le (p q:Option Rs):Prop:=∀ r,p=some r → q=some r
theorem Le.refl (p:Option Rs):Le p p:=fun _ h=>h
theorem thn_some {p:Option Rs} {f:Nd → Nat → Option Rs} {r:Rs} (h:thn p f=some r):(∃ k,p=some (.bad k)∧r=.bad k) ∨ ∃ x a,p=some (.ok x a)∧f x a=some r:=by
 unfold thn at h
 split at h
 ·cases h
 ·exact .inl ⟨_,rfl,(Option.some.inj h).symm⟩
 ·exact .inr ⟨_,_,rfl,h⟩
theorem step_ind (L:List Tok) (C:((Nt → Nat → Option Rs) → Option Rs) → Prop) (hk:∀ o,C fun _=>o) (hc:∀ t a,C fun P=>P t a) (ht:∀ (F:(Nt → Nat → Option Rs) → Option Rs) (f:(Nt → Nat → Option Rs) → Nd → Nat → Option Rs),C F → (∀ x b,C fun P=>f P x b) → C fun P=>thn (F P) (f P)) (t:Nt) (a:Nat):C fun P=>stepG L P t a:=by
 have hO:∀ (o:Option Nd) (b:Nat) (f:(Nt → Nat → Option Rs) → Nd → Option Rs),(∀ x,C fun P=>f P x) → C fun P=>thnO o b (f P):=fun o b f h=>by
  cases o
  ·exact hk _
  ·exact h _
 have hT:∀ {α:Type} (o:Except Nat (α × Nat)) (f:(Nt → Nat → Option Rs) → α → Nat → Option Rs),(∀ x b,C fun P=>f P x b) → C fun P=>thnT o (f P):=fun o f h=>by
  cases o
  ·exact hk _
  ·exact h _ _
 have hI:∀ (c:Prop) [Decidable c] (F K:(Nt → Nat → Option Rs) → Option Rs),C F → C K → C fun P=>if c then F P else K P:=fun c _ F K h1 h2=>by
  by_cases h:c
  ·simpa only [if_pos h] using h1
  ·simpa only [if_neg h] using h2
 have hw:∀ (b:Nat) (s:ByteArray) (F:(Nt → Nat → Option Rs) → Option Rs),C F → C fun P=>wnt L b s (F P):=fun b s F h=>hI _ F _ h (hk _)
 have hn:∀ (b:Nat) (F:(Nt → Nat → Option Rs) → Option Rs),C F → C fun P=>nam L b (F P):=fun b F h=>hI _ F _ h (hk _)
 cases t <;> simp only [stepG,unrS,primS,stmS,varS,loopS,retS,choiceS,cssS,parS,valS,builtinS] <;>
  repeat (with_reducible first | exact hk _ | exact hc _ _ | refine hw _ _ _ ?_ | refine hn _ _ ?_ | refine ht _ _ ?_ fun _ _=>?_ | refine hT _ _ fun _ _=>?_ | refine hO _ _ _ fun _=>?_ | refine hI _ _ _ ?_ ?_)
theorem step_mono {L:List Tok} {P Q:Nt → Nat → Option Rs} (h:∀ t a,Le (P t a) (Q t a)) (t:Nt) (a:Nat):Le (stepG L P t a) (stepG L Q t a) :=
 step_ind L (fun F=>Le (F P) (F Q)) (fun _=>Le.refl _) h (fun F f hF hf r hr=>by
  rcases thn_some hr with ⟨k,h1,h2⟩ | ⟨x,b,h1,h2⟩
  ·show thn (F Q) (f Q)=some r
   rw [hF _ h1,h2]; rfl
  ·show thn (F Q) (f Q)=some r
   rw [hF _ h1]; exact hf x b r h2) t a
theorem gr_mono {L:List Tok}:∀ (n:Nat) (t:Nt) (a:Nat),Le (gr L n t a) (gr L (n + 1) t a)
 | 0,_,_=>fun _ h=>by cases h
 | n + 1,t,a=>step_mono (gr_mono n) t a
theorem gr_le {L:List Tok} {n m:Nat} (h:n ≤ m) (t:Nt) (a:Nat):Le (gr L n t a) (gr L m t a):=by
 induction h with
 | refl=>exact Le.refl _
 | step _ ih=>exact fun r hr=>gr_mono _ t a r (ih r hr)
theorem gram_iff {L:List Tok} {t:Nt} {a:Nat} {r:Rs}:gram L t a=some r ↔ ∃ n,gr L n t a=some r:=by
 unfold gram
 constructor
 ·intro h
  split at h
  ·exact ⟨_,h⟩
  ·cases h
 ·rintro ⟨n,hn⟩
  have h:∃ n r,gr L n t a=some r:=⟨n,r,hn⟩
  rw [dif_pos h]
  obtain ⟨r2,h2⟩:=Classical.choose_spec h
  rcases Nat.le_total n (Classical.choose h) with hl | hl
  ·exact gr_le hl t a r hn
  ·rw [h2,← hn,gr_le hl t a r2 h2]
theorem gram_step {L:List Tok} (t:Nt) (a:Nat) (r:Rs) (h:stepG L (gram L) t a=some r):∃ n,stepG L (gr L n) t a=some r :=
 step_ind L (fun F=>∀ r,F (gram L)=some r → ∃ n,∀ m,n ≤ m → F (gr L m)=some r) (fun _ _ h=>⟨0,fun _ _=>h⟩) (fun t a r h=>by
  obtain ⟨n,hn⟩:=gram_iff.1 h
  exact ⟨n,fun m hm=>gr_le hm t a r hn⟩) (fun F f hF hf r hr=>by
  rcases thn_some hr with ⟨k,h1,h2⟩ | ⟨x,b,h1,h2⟩
  ·obtain ⟨n,hn⟩:=hF _ h1
   exact ⟨n,fun m hm=>by show thn (F (gr L m)) (f (gr L m))=some r; rw [hn m hm,h2]; rfl⟩
  ·obtain ⟨n,hn⟩:=hF _ h1
   obtain ⟨k,hk⟩:=hf x b r h2
   exact ⟨n + k,fun m hm=>by show thn (F (gr L m)) (f (gr L m))=some r; rw [hn m (by omega)]; exact hk m (by omega)⟩) t a r h |>.elim fun n hn=>⟨n,hn n (Nat.le_refl _)⟩
theorem gram_eq (L:List Tok) (t:Nt) (a:Nat):gram L t a=stepG L (gram L) t a:=by
 refine Option.ext fun r=>⟨fun h=>?_,fun h=>?_⟩
 ·obtain ⟨n,hn⟩:=gram_iff.1 h
  cases n with
  | zero=>cases hn
  | succ n=>exact step_mono (fun t a r h=>gram_iff.2 ⟨n,h⟩) t a r hn
 ·obtain ⟨n,hn⟩:=gram_step t a r h
  exact gram_iff.2 ⟨n + 1,hn⟩
end Go.Proofs.YtmmnhbhnjiajhaaGreatDoor.c
