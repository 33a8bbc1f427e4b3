/- Which programs are right, as a plain function; what the grammar reads is right. No condition. Which fields an operation, a statement, a parameter has: contracts of tree.shapeOf, forms, isDeclared, isParam. The table strings.asciiSpace holds what its text lays. -/
import Derived.Test.YtobfbfbjccmbiaaGreatDoorVd
namespace Go.Proofs.YtobfbfbjccmbiaaGreatDoor.c
open Go.RowKit
set_option linter.unusedVariables false
set_option maxRecDepth 100000
set_option maxHeartbeats 6400000
set_option linter.unusedSimpArgs false
structure Sh where
 args:Int
 kind:Nat
 name:Bool
 num:Bool
 body:Bool
def shS (op:Int):Option Sh :=
 if op=0 then some ⟨0,1,false,true,false⟩
 else if op=1 then some ⟨0,0,true,false,false⟩
 else if op=2 then some ⟨-1,0,true,false,false⟩
 else if op=3 ∨ op=4 ∨ op=29 ∨ op=30 ∨ op=32 then some ⟨1,0,false,false,false⟩
 else if (5 ≤ op∧op ≤ 25) ∨ op=31 ∨ op=33 then some ⟨2,0,false,false,false⟩
 else if op=26 ∨ op=27 then some ⟨1,2,false,false,false⟩
 else if op=28 ∨ op=34 then some ⟨0,3,false,false,false⟩
 else if op=35 then some ⟨0,0,false,false,true⟩
 else none
def tkS (k:Nat) (t:Ty):Bool:=match k with
 | 0=>tz t
 | 1=>isPlainS t
 | 2=>isCountS t
 | _=>isWholeS t
def exV2 (s:Sh) (ty:Ty) (nm:ByteArray) (n:Int) (la lb:Nat):Bool :=
 (decide (s.args < 0) || (la:Int) == s.args) && (s.body || lb == 0) && (s.name == !emp nm) && (!s.name || isNameS nm) && (tkS s.kind ty && (s.num || n == 0) && (!s.num || isNumS ty n))
def exV (op:Int) (ty:Ty) (nm:ByteArray) (n:Int) (la lb:Nat):Bool:=match shS op with
 | none=>false
 | some s=>exV2 s ty nm n la lb
structure Fo where
 name:Bool
 kind:Bool
 least:Int
 most:Int
 lb:Int
 mb:Int
 cases:Bool
def foS (op:Nat):Fo:=match op with
 | 0=>⟨true,true,1,1,0,0,false⟩
 | 1=>⟨true,true,1,1,0,0,false⟩
 | 2=>⟨true,false,1,1,0,0,false⟩
 | 3=>⟨false,false,1,1,0,0,false⟩
 | 4=>⟨false,false,0,1,0,0,false⟩
 | 5=>⟨true,false,0,0,0,0,false⟩
 | 6=>⟨false,false,1,1,1,2,false⟩
 | 7=>⟨false,false,1,1,1,1,false⟩
 | 8=>⟨true,true,2,2,1,1,false⟩
 | 9=>⟨true,true,2,2,1,1,false⟩
 | 10=>⟨false,false,1,1,0,1,true⟩
 | 11=>⟨false,false,0,0,1,1,false⟩
 | 12=>⟨false,false,0,0,1,1,false⟩
 | 13=>⟨false,false,0,0,1,1,false⟩
 | 16=>⟨false,false,1,1,0,0,false⟩
 | _=>⟨false,false,0,0,0,0,false⟩
def dclT (op:Int) (t:Ty):Bool:=if op=8 ∨ op=9 then isCountS t else isTypeS t && (t.base != 0 && t.base != 4)
def stV2 (f:Fo) (op:Int) (nm:ByteArray) (ty:Ty) (le lb lc:Nat):Bool :=
 (f.name == !emp nm) && (!f.name || isNameS nm) && (if f.kind then dclT op ty else tz ty) && (decide (f.least ≤ le) && decide ((le:Int) ≤ f.most) && decide (f.lb ≤ lb) && decide ((lb:Int) ≤ f.mb) && (f.cases || lc == 0))
def stV (op:Int) (nm:ByteArray) (ty:Ty) (le lb lc:Nat):Bool:=decide (0 ≤ op) && decide (op ≤ 17) && stV2 (foS op.toNat) op nm ty le lb lc
def caV (lo hi:Int):Bool:=decide (-2147483648 ≤ lo) && decide (hi ≤ 2147483648) && decide (lo ≤ hi)
def paV (nm:ByteArray) (ty:Ty) (kn:Bool):Bool:=isNameS nm && (isTypeS ty && (ty.base != 0 && (!ty.err && (ty.base != 4 || kn))))
def vd:Nd → Bool
 | .nil=>true
 | .ex op ty nm n a b tl=>exV op ty nm n a.len b.len && (vd a && vd b) && vd tl
 | .st op nm ty es bs cs tl=>stV op nm ty es.len bs.len cs.len && (vd cs && (vd es && vd bs)) && vd tl
 | .bl b tl=>vd b && vd tl
 | .ca lo hi b tl=>caV lo hi && vd b && vd tl
 | .pa nm ty kn tl=>paV nm ty kn && vd tl
 | .de fn nm ps ty val b tl=>(isNameS nm && (isTypeS ty && ty.base != 4) && (if fn then emptyX val && (vd b && vd ps) else (ps.len == 0 && b.len == 0 && isPlainS ty && ((ty.base == 2 || ty.base == 3) || ty.base == 1)) && vd val)) && vd tl
theorem app_vd:∀ x y:Nd,vd (x.app y)=(vd x && vd y)
 | .nil,y=>by rw [Nd.app,vd,Bool.true_and]
 | .ex o t n k a b tl,y=>by simp only [Nd.app,vd,app_vd tl,Bool.and_assoc]
 | .st o n t a b c tl,y=>by simp only [Nd.app,vd,app_vd tl,Bool.and_assoc]
 | .bl b tl,y=>by simp only [Nd.app,vd,app_vd tl,Bool.and_assoc]
 | .ca l h b tl,y=>by simp only [Nd.app,vd,app_vd tl,Bool.and_assoc]
 | .pa n t k tl,y=>by simp only [Nd.app,vd,app_vd tl,Bool.and_assoc]
 | .de f n p t v b tl,y=>by simp only [Nd.app,vd,app_vd tl,Bool.and_assoc]
theorem nm_emp {s:ByteArray} (h:isNameS s=true):emp s=false:=by
 unfold isNameS wordS at h
 unfold emp
 have e:s.toList=s.data.toList:=ByteArray.toList_eq s
 rw [e]
 cases hs:s.data.toList with
 | nil=>rw [hs] at h; simp at h
 | cons c l=>rfl
theorem isW_nm {L:List Tok} {a:Nat} (h:isW L a=true):isNameS (tx L a)=true:=by
 unfold isW at h
 exact (Bool.and_eq_true _ _ ▸ h:_∧_).2
theorem typS_in {L:List Tok} {a:Nat} {e o v b t n:Bool} {ty:Ty} {c:Nat} (h:typS L a e o v b t n=.ok (ty,c)):isTypeS ty=true∧alS v b t n ty.base=true∧(o=false → ty.opt=false)∧(e=false → ty.err=false):=by
 unfold typS at h
 simp only at h
 obtain ⟨hc,h2⟩:=ite_ok h
 have h3:=(Prod.mk.inj h2).1
 refine ⟨h3 ▸ hc.2.2.1,h3 ▸ hc.2.2.2,fun ho=>?_,fun he=>?_⟩
 ·rw [← h3,ho]; rfl
 ·rw [← h3,he]; rfl
theorem plainS_of {t:Ty} (h:isTypeS t=true) (h1:t.opt=false) (h2:t.err=false):isPlainS t=true:=by
 unfold isPlainS; rw [h,h1,h2]; rfl
theorem typ_count {L:List Tok} {a:Nat} {ty:Ty} {c:Nat} (h:typS L a false false false false false true=.ok (ty,c)):isCountS ty=true:=by
 obtain ⟨h1,h2,h3,h4⟩:=typS_in h
 unfold isCountS
 rw [plainS_of h1 (h3 rfl) (h4 rfl)]
 rcases base_in h1 with e | e | e | e | e | e <;> rw [e] at h2 ⊢ <;> first | rfl | exact absurd h2 (by decide)
theorem typ_whole {L:List Tok} {a:Nat} {ty:Ty} {c:Nat} (h:typS L a false false false true false true=.ok (ty,c)):isWholeS ty=true:=by
 obtain ⟨h1,h2,h3,h4⟩:=typS_in h
 unfold isWholeS
 rw [plainS_of h1 (h3 rfl) (h4 rfl)]
 rcases base_in h1 with e | e | e | e | e | e <;> rw [e] at h2 ⊢ <;> first | rfl | exact absurd h2 (by decide)
theorem typ_vr {L:List Tok} {a:Nat} {ty:Ty} {c:Nat} (h:typS L a true true false true false true=.ok (ty,c)):(isTypeS ty && (ty.base != 0 && ty.base != 4))=true:=by
 obtain ⟨h1,h2,_,_⟩:=typS_in h
 rw [h1]
 rcases base_in h1 with e | e | e | e | e | e <;> rw [e] at h2 ⊢ <;> first | rfl | exact absurd h2 (by decide)
theorem ite_some2 {α:Type} {c:Prop} [Decidable c] {y z:α} (h:(if c then some y else none)=some z):c∧y=z:=by
 split at h
 ·exact ⟨‹c›,Option.some.inj h⟩
 ·cases h
theorem litS_vd {s:ByteArray} {g:Bool} {x:Nd} (h:litS s g=some x):vd x=true∧x.len=1:=by
 unfold litS at h
 simp only at h
 obtain ⟨hc,rfl⟩:=ite_some2 h
 have hn:=hc.2.2.2
 refine ⟨?_,rfl⟩
 have hp:isPlainS (baseS ⟨(s.data.toList.dropWhile isDg).toArray⟩).1=true:=by
  unfold isNumS at hn
  exact (Bool.and_eq_true _ _ ▸ hn:_∧_).1
 simp [vd,exV,shS,exV2,tkS,hn,hp,Nd.len,emp]
theorem opS_two {k:Nat} {s:ByteArray} {o:Int} (h:opS k s=some o):shS o=some ⟨2,0,false,false,false⟩:=by
 unfold opS at h
 obtain ⟨p,hp,rfl⟩:=Option.map_eq_some_iff.1 h
 have hm:=List.mem_of_find?_eq_some hp
 by_cases hk:k < 7
 ·have h7:∀ k < 7,∀ p ∈ opsT.getD k [],(5 ≤ p.2∧p.2 ≤ 25) ∨ p.2=31 ∨ p.2=33:=by decide +kernel
  have h8:=h7 k hk p hm
  unfold shS
  rw [if_neg (by omega),if_neg (by omega),if_neg (by omega),if_neg (by omega),if_pos (by omega)]
 ·rw [List.getD_eq_getElem?_getD,List.getElem?_eq_none (by rw [show opsT.length=7 from rfl]; omega)] at hm
  cases hm
theorem opS_two2 {k:Nat} {s:ByteArray} {Q:Prop} (h:¬(opS k s=none ∨ Q)):shS ((opS k s).getD 0)=some ⟨2,0,false,false,false⟩:=by
 cases ho:opS k s with
 | none=>exact absurd (.inl ho) h
 | some o=>exact opS_two ho
def prV:Nt → Prop
 | .ops _ _ x=>vd x=true∧x.len=1
 | .post x=>vd x=true∧x.len=1
 | .args x=>vd x=true
 | .sts x=>vd x=true
 | .css x=>vd x=true
 | _=>True
def oneV:Nt → Bool
 | .lvl _=>true
 | .ops _ _ _=>true
 | .un=>true
 | .post _=>true
 | .prim=>true
 | _=>false
def poV (t:Nt) (x:Nd):Prop:=vd x=true∧(oneV t=true → x.len=1)
theorem tz_tZ:tz tZ=true:=by decide +kernel
theorem emp_nil:emp ⟨#[]⟩=true:=by decide +kernel
theorem vd_un {op:Int} {x:Nd} (h:vd x=true) (h1:x.len=1) (ho:shS op=some ⟨1,0,false,false,false⟩):vd (exN op x)=true:=by
 simp [exN,vd,exV,ho,exV2,h,h1,Nd.len,tkS,emp_nil,tz_tZ]
theorem vd_two {op:Int} {x y:Nd} (h:vd x=true) (h1:x.len=1) (hy:vd y=true) (hy1:y.len=1) (ho:shS op=some ⟨2,0,false,false,false⟩):vd (exN op (x.app y))=true:=by
 simp [exN,vd,exV,ho,exV2,app_vd,app_len,h,h1,hy,hy1,Nd.len,tkS,emp_nil,tz_tZ]
theorem cnumS_in {L:List Tok} {a:Nat} {lo n:Int} {c:Nat} (h:cnumS L a lo=.ok (n,c)):lo ≤ n∧n ≤ 2147483648:=by
 unfold cnumS at h
 simp only at h
 obtain ⟨hc,h2⟩:=ite_ok h
 rw [← (Prod.mk.inj h2).1]
 exact hc.2.2.2
theorem cnumS_in2 {L:List Tok} {b:Nat} {s:ByteArray} {lo n:Int} {c:Nat} (h:(if tx L b=s then cnumS L (b + 1) lo else .ok (lo,b))=.ok (n,c)):lo ≤ n∧(n=lo ∨ n ≤ 2147483648):=by
 split at h
 ·have:=cnumS_in h; omega
 ·cases h; omega
section
variable {L:List Tok}
theorem gram_vd (t:Nt) (a:Nat):Po (fun x _=>prV t → poV t x) (gram L t a):=by
 refine gram_post (fun t a x c=>prV t → poV t x) (fun P hP t a=>?_) t a
 cases t <;> simp only [stepG,unrS,primS,stmS,varS,loopS,retS,choiceS,cssS,parS,valS,builtinS] <;>
  repeat' first
   | exact Po.bad _
   | (exfalso; exact absurd ‹false=true› (by decide))
   | refine Po.wnt fun _=>?_
   | (refine Po.nam fun hw=>?_; have hw2:=isW_nm hw; have hw3:=nm_emp hw2; clear hw)
   | refine Po.ite (fun _=>?_) (fun _=>?_)
   | (refine Po.thnO fun _ h=>?_; have:=litS_vd h; clear h)
   | (refine Po.thn (hP _ _) fun _ _ hc=>?_)
   | (refine Po.thnT fun _ _ h=>?_; (first | have ht:=typ_count h | have ht:=typ_whole h | have ht:=typ_vr h | have ht:=cnumS_in h | have ht:=cnumS_in2 h); clear h)
   | (refine Po.ok fun hp=>?_; clear hP; simp only [prV,poV,oneV,vd,forall_const,true_implies,Bool.false_eq_true,false_implies,and_true,reduceCtorEq] at *; first | exact hp | exact this | exact hc | exact ⟨vd_un hc.1 hc.2 rfl,rfl⟩ | exact k ⟨vd_un hp.1 hp.2 rfl,rfl⟩ | exact k ⟨vd_two hp.1 hp.2 hc.1 hc.2 (opS_two2 ‹_›),rfl⟩ | exact k hc | exact k this | exact ⟨by decide +kernel,rfl⟩ | exact (by decide +kernel) | (simp [exN,stN,vd,exV,shS,exV2,tkS,stV,stV2,foS,dclT,caV,Nd.len,app_vd,app_len,tz_tZ,emp_nil, *]; done) | (refine k ?_; simp [exN,stN,vd,exV,shS,exV2,tkS,stV,stV2,foS,dclT,caV,Nd.len,app_vd,app_len,tz_tZ,emp_nil, *]; first | done | omega))
   | (refine (hP _ _).mono fun _ _ k hp=>?_; clear hP; simp only [prV,poV,oneV,vd,forall_const,true_implies,Bool.false_eq_true,false_implies,and_true,reduceCtorEq] at *; first | exact hp | exact this | exact hc | exact ⟨vd_un hc.1 hc.2 rfl,rfl⟩ | exact k ⟨vd_un hp.1 hp.2 rfl,rfl⟩ | exact k ⟨vd_two hp.1 hp.2 hc.1 hc.2 (opS_two2 ‹_›),rfl⟩ | exact k hc | exact k this | exact ⟨by decide +kernel,rfl⟩ | exact (by decide +kernel) | (simp [exN,stN,vd,exV,shS,exV2,tkS,stV,stV2,foS,dclT,caV,Nd.len,app_vd,app_len,tz_tZ,emp_nil, *]; done) | (refine k ?_; simp [exN,stN,vd,exV,shS,exV2,tkS,stV,stV2,foS,dclT,caV,Nd.len,app_vd,app_len,tz_tZ,emp_nil, *]; first | done | omega))
end
def kvS (k:Nat):Value:=match k with
 | 0=>.nilFunc
 | 1=>.func (.func 81) #[] #[]
 | 2=>.func (.func 162) #[] #[]
 | _=>.func (.func 163) #[] #[]
def shC (s:Sh):Array Value:=#[.int .i64 s.args,kvS s.kind,.bool s.name,.bool s.num,.bool s.body]
def shO (op:Int):Sh:=(shS op).getD ⟨0,0,false,false,false⟩
def zSh:Array Value:=#[.int .i64 0,.nilFunc,.bool false,.bool false,.bool false]
theorem shC_one (s:Sh):∀ u ∈ (shC s).toList,u.oneCell'=true:=by
 simp only [shC,List.mem_cons,List.not_mem_nil,or_false]
 rintro u (rfl | rfl | rfl | rfl | rfl) <;> first | rfl | (unfold kvS; split <;> rfl)
theorem shS_none {op:Int} (h:op < 0 ∨ 35 < op):shS op=none:=by
 unfold shS
 repeat rw [if_neg (by omega)]
theorem shapeOf_any (op:Int) (w:World):Calls Tryz.prog 123 #[.int .i64 op] w fun e w'=>e=.returned (.tuple #[.agg (shC (shO op)),.bool (shS op).isSome])∧Ext w w':=by
 have HZ:Hid ((Tryz.prog.info? 168).map (·.size)=some 5):=by unfold Hid; kernel_rfl
 have hc:(op < 0 ∨ 35 < op) ∨ (op=0 ∨ op=1 ∨ op=2 ∨ op=3 ∨ op=4 ∨ op=5 ∨ op=6 ∨ op=7 ∨ op=8 ∨ op=9 ∨ op=10 ∨ op=11 ∨ op=12 ∨ op=13 ∨ op=14 ∨ op=15 ∨ op=16 ∨ op=17 ∨ op=18 ∨ op=19 ∨ op=20 ∨ op=21 ∨ op=22 ∨ op=23 ∨ op=24 ∨ op=25 ∨ op=26 ∨ op=27 ∨ op=28 ∨ op=29 ∨ op=30 ∨ op=31 ∨ op=32 ∨ op=33 ∨ op=34 ∨ op=35):=by omega
 rcases hc with h | rfl | rfl | rfl | rfl | rfl | rfl | rfl | rfl | rfl | rfl | rfl | rfl | rfl | rfl | rfl | rfl | rfl | rfl | rfl | rfl | rfl | rfl | rfl | rfl | rfl | rfl | rfl | rfl | rfl | rfl | rfl | rfl | rfl | rfl | rfl | rfl
 ·have hs:=shS_none h
  unfold shO
  rw [hs]
  have e0:(op == 0)=false:=by rw [beq_eq_false_iff_ne]; omega
  have e1:(op == 1)=false:=by rw [beq_eq_false_iff_ne]; omega
  have e2:(op == 2)=false:=by rw [beq_eq_false_iff_ne]; omega
  have e3:(op == 3)=false:=by rw [beq_eq_false_iff_ne]; omega
  have e4:(op == 4)=false:=by rw [beq_eq_false_iff_ne]; omega
  have e29:(op == 29)=false:=by rw [beq_eq_false_iff_ne]; omega
  have e30:(op == 30)=false:=by rw [beq_eq_false_iff_ne]; omega
  have e32:(op == 32)=false:=by rw [beq_eq_false_iff_ne]; omega
  have e31:(op == 31)=false:=by rw [beq_eq_false_iff_ne]; omega
  have e33:(op == 33)=false:=by rw [beq_eq_false_iff_ne]; omega
  have e26:(op == 26)=false:=by rw [beq_eq_false_iff_ne]; omega
  have e27:(op == 27)=false:=by rw [beq_eq_false_iff_ne]; omega
  have e28:(op == 28)=false:=by rw [beq_eq_false_iff_ne]; omega
  have e34:(op == 34)=false:=by rw [beq_eq_false_iff_ne]; omega
  have e35:(op == 35)=false:=by rw [beq_eq_false_iff_ne]; omega
  rcases h with h | h
  ·have g1:¬ (5:Int) ≤ op:=by omega
   clear hs h
   go_enter Tryz.func123,Tryz.ntmps123
   go_wp2_with (first
    | ((with_reducible show wpList _ _ _ (Oper.mk none (.store 168 (.tmp 2) _) _ _ _ _ :: _) _ _); refine wpList_store_row rfl _ _ _ rfl w.heap.size rfl 168 zSh (shC ⟨0,0,false,false,false⟩) (Blk.new w _ zSh) rfl rfl (shC_one _) HZ.out ?_))
   exact bodyPost_ret (results_row_tmp rfl _ _ w.heap.size _ (shC ⟨0,0,false,false,false⟩) (0,0) _ rfl ((Blk.new w _ zSh).row _) Tryz.underlying168 rfl HZ.out _ rfl) rfl ⟨rfl,(newRow w _ zSh _).1⟩
  ·have g1:(5:Int) ≤ op:=by omega
   have g2:¬ op ≤ (25:Int):=by omega
   clear hs h
   go_enter Tryz.func123,Tryz.ntmps123
   go_wp2_with (first
    | ((with_reducible show wpList _ _ _ (Oper.mk none (.store 168 (.tmp 2) _) _ _ _ _ :: _) _ _); refine wpList_store_row rfl _ _ _ rfl w.heap.size rfl 168 zSh (shC ⟨0,0,false,false,false⟩) (Blk.new w _ zSh) rfl rfl (shC_one _) HZ.out ?_))
   exact bodyPost_ret (results_row_tmp rfl _ _ w.heap.size _ (shC ⟨0,0,false,false,false⟩) (0,0) _ rfl ((Blk.new w _ zSh).row _) Tryz.underlying168 rfl HZ.out _ rfl) rfl ⟨rfl,(newRow w _ zSh _).1⟩
 all_goals
  go_enter Tryz.func123,Tryz.ntmps123
  go_wp2_with (first
   | ((with_reducible show wpList _ _ _ (Oper.mk none (.store 168 (.tmp 2) _) _ _ _ _ :: _) _ _); refine wpList_store_row rfl _ _ _ rfl w.heap.size rfl 168 zSh _ (Blk.new w _ zSh) rfl rfl (by simp only [List.mem_cons,List.not_mem_nil,or_false]; rintro u (rfl | rfl | rfl | rfl | rfl) <;> rfl) HZ.out ?_))
  exact bodyPost_ret (results_row_tmp rfl _ _ w.heap.size _ #[_,_,_,_,_] (0,0) _ rfl ((Blk.new w _ zSh).row _) Tryz.underlying168 rfl HZ.out _ rfl) rfl ⟨rfl,(newRow w _ zSh _).1⟩
def foC (f:Fo):Array Value:=#[.bool f.name,.bool f.kind,.int .i64 f.least,.int .i64 f.most,.int .i64 f.lb,.int .i64 f.mb,.bool f.cases]
def foA:Array Value:=((List.range 18).flatMap fun i=>(foC (foS i)).toList).toArray
theorem run_form {i:Nat} (h:i < 18) (w:World):(Instr.index 200 (.agg foA) (.int .i64 i)).run Tryz.prog w=.ok (.agg (foC (foS i))) w :=
 match i,h with
 | 0,_=>by kernel_rfl
 | 1,_=>by kernel_rfl
 | 2,_=>by kernel_rfl
 | 3,_=>by kernel_rfl
 | 4,_=>by kernel_rfl
 | 5,_=>by kernel_rfl
 | 6,_=>by kernel_rfl
 | 7,_=>by kernel_rfl
 | 8,_=>by kernel_rfl
 | 9,_=>by kernel_rfl
 | 10,_=>by kernel_rfl
 | 11,_=>by kernel_rfl
 | 12,_=>by kernel_rfl
 | 13,_=>by kernel_rfl
 | 14,_=>by kernel_rfl
 | 15,_=>by kernel_rfl
 | 16,_=>by kernel_rfl
 | 17,_=>by kernel_rfl
 | n + 18,h=>absurd h (by omega)
theorem forms_any (w:World):Calls Tryz.prog 157 #[] w fun e w'=>e=.returned (.agg foA)∧Ext w w':=by
 have HZ:Hid ((Tryz.prog.info? 200).map (·.size)=some 126):=by unfold Hid; kernel_rfl
 go_enter Tryz.func157,Tryz.ntmps157
 go_wp2_with (first
  | ((with_reducible show wpList _ _ _ (Oper.mk none (.store 200 (.tmp 0) _) _ _ _ _ :: _) _ _); refine wpList_store_row rfl _ _ _ rfl w.heap.size rfl 200 _ foA (Blk.new w _ _) (congrArg Value.agg (by kernel_rfl)) (by kernel_rfl) (List.all_eq_true.1 (by kernel_rfl)) HZ.out ?_))
 exact bodyPost_ret (results_cell_row rfl _ _ w.heap.size _ foA (0,0) _ rfl ((Blk.new w _ _).row _) Tryz.underlying200 rfl HZ.out) rfl ⟨rfl,(newRow w _ _ _).1⟩
theorem isDeclared_any (op:Int) (t:Ty) (w:World) (g:Laid w):Calls Tryz.prog 158 #[.int .i64 op,.agg (tyA t)] w fun r w'=>r=.returned (.bool (dclT op t))∧Ext w w':=by
 have HT:=Lib.hid (isTy t)
 have HC:=Lib.hid (isCount_any t)
 have HG:=Lib.hid g
 unfold tyA
 by_cases h:op=8 ∨ op=9
 ·rw [show dclT op t=isCountS t from if_pos h]
  clear g
  rcases h with rfl | rfl
  all_goals
   go_enter Tryz.func158,Tryz.ntmps158
   go_wp2_with (first
    | (go_at_call 162; refine (HC.out _ (HG.out.ext ((Ext.refl w).alloc _))).mono ?_; rintro r w1 ⟨rfl,x1⟩; have y1:=x1.facts; have z1:=x1.z0))
   go_ret
   exact ⟨rfl,exA⟩
 ·have e8:(op == 8)=false:=by rw [beq_eq_false_iff_ne]; omega
  have e9:(op == 9)=false:=by rw [beq_eq_false_iff_ne]; omega
  obtain ⟨i,hi⟩:∃ i,isTypeS t=i:=⟨_,rfl⟩
  have HI:=Lib.hid hi
  rw [show dclT op t=(isTypeS t && (t.base != 0 && t.base != 4)) from if_neg h,hi]
  clear hi g h
  cases i
  all_goals
   go_enter Tryz.func158,Tryz.ntmps158
   go_wp2_with (first
    | (go_at_call 32; refine (HT.out _ (HG.out.ext ((Ext.refl w).alloc _))).mono ?_; rw [HI.out]; rintro r w1 ⟨rfl,x1⟩; have y1:=x1.facts; have z1:=x1.z0))
   all_goals
    go_ret
    exact ⟨ret_bool (by simp [*]),exA⟩
theorem isParam_any (nm:ByteArray) (t:Ty) (kn:Bool) (w:World) (g:Laid w):Calls Tryz.prog 80 #[.agg (paC nm t kn)] w fun r w'=>r=.returned (.bool (paV nm t kn))∧Ext w w':=by
 have HT:=Lib.hid (isTy t)
 have HN:=Lib.hid (isName_any nm)
 have HG:=Lib.hid g
 obtain ⟨i,hi⟩:∃ i,isTypeS t=i:=⟨_,rfl⟩
 obtain ⟨j,hj⟩:∃ j,isNameS nm=j:=⟨_,rfl⟩
 have HI:=Lib.hid hi
 have HJ:=Lib.hid hj
 unfold paC
 rw [show paV nm t kn=(isNameS nm && (isTypeS t && (t.base != 0 && (!t.err && (t.base != 4 || kn))))) from rfl,hi,hj]
 clear hi hj g
 cases j <;> cases i
 all_goals
  go_enter Tryz.func80,Tryz.ntmps80
  go_wp2_with (first
   | (go_at_call 16; refine (HN.out _ (HG.out.ext ((Ext.refl w).alloc _))).mono ?_; rw [HJ.out]; rintro r w1 ⟨rfl,x1⟩; have y1:=x1.facts; have z1:=x1.z0)
   | (go_at_call 32; refine (HT.out _ (HG.out.ext (((Ext.refl w).alloc _).trans x1))).mono ?_; rw [HI.out]; rintro r w2 ⟨rfl,x2⟩; have y2:=x2.facts; have z2:=(x1.trans x2).z0))
  all_goals
   go_ret
   exact ⟨ret_bool (by first | rfl | (simp [*]; done)),exA⟩
end Go.Proofs.YtobfbfbjccmbiaaGreatDoor.c
