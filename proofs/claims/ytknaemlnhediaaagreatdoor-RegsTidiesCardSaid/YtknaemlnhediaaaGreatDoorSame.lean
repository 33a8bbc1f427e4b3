/- When two codes are equal: plainly; contracts of the program's Same and of what it calls. Conditions: lengths. Register code without the places where it lies: what is right of it, what it does, and when two codes are the same do not look at places. No condition. -/
import Derived.Test.YtknaemlnhediaaaGreatDoorSlots
import Derived.Test.YtknaemlnhediaaaGreatDoorSortc
import Derived.Deep.QuietTactic
import Derived.BigQuiet
import Derived.Test.YtknaemlnhediaaaGreatDoorHval
namespace Go.Proofs.YtknaemlnhediaaaGreatDoor.c
open Go.RowKit
set_option linter.unusedVariables false
set_option linter.unusedSimpArgs false
def tyB (t u:Ty):Bool:=t.base == u.base && (t.bits == u.bits && (t.name.toList == u.name.toList && (t.opt == u.opt && t.err == u.err)))
theorem run_ty_neq (t u:Ty) (w:World):(binOp .neq 35 (.agg #[.int .i64 t.base,.int .i64 t.bits,.string t.name,.bool t.opt,.bool t.err]) (.agg #[.int .i64 u.base,.int .i64 u.bits,.string u.name,.bool u.opt,.bool u.err])).run Tryz.prog w=.ok (.bool (!tyB t u)) w:=by
 obtain ⟨a,b,n,o,e⟩:=t
 obtain ⟨a2,b2,n2,o2,e2⟩:=u
 go_simp
 unfold tyB
 by_cases h1:a=a2
 ·by_cases h2:b=b2
  ·by_cases h3:n.toList=n2.toList
   ·cases o <;> cases e <;> cases o2 <;> cases e2 <;> simp [h1,h2,h3]
   ·simp [h1,h2,h3]
  ·simp [h1,h2]
 ·simp [h1]
def allB (p:Nat → Bool) (n:Nat):Bool:=(List.range n).all p
theorem allB_iff {p:Nat → Bool} {n:Nat}:allB p n=true ↔ ∀ j,j < n → p j=true:=by
 unfold allB
 rw [List.all_eq_true]
 exact ⟨fun h j hj=>h j (List.mem_range.2 hj),fun h j hj=>h j (List.mem_range.1 hj)⟩
theorem allB_no {p:Nat → Bool} {n k:Nat} (hk:k < n) (h:p k=false):allB p n=false:=by
 rw [Bool.eq_false_iff,Ne,allB_iff]
 intro h2
 rw [h2 k hk] at h
 cases h
def eqB (n m:Nat) (p:Nat → Bool):Bool:=decide (n=m) && allB p n
theorem eqB_len {n m:Nat} {p:Nat → Bool} (h:n ≠ m):eqB n m p=false:=by unfold eqB; rw [decide_eq_false h]; rfl
theorem eqB_all {n:Nat} {p:Nat → Bool} (h:∀ j,j < n → p j=true):eqB n n p=true:=by unfold eqB; rw [decide_eq_true rfl,allB_iff.2 h]; rfl
theorem eqB_no {n m k:Nat} {p:Nat → Bool} (hk:k < n) (h:p k=false):eqB n m p=false:=by unfold eqB; rw [allB_no hk h,Bool.and_false]
def intsB (L M:List Int):Bool:=eqB L.length M.length fun i=>L.getD i 0 == M.getD i 0
def sameX (x y:Rg):Bool:=x.op == y.op && (x.d == y.d && (x.a == y.a && (x.b == y.b && (tyB x.ty y.ty && (x.name.toList == y.name.toList && intsB x.args y.args)))))
def sameF (f g:Rf):Bool:=f.name.toList == g.name.toList && (f.params == g.params && (f.regs == g.regs && (tyB f.ty g.ty && eqB f.code.length g.code.length fun i=>sameX (f.code.getD i default) (g.code.getD i default))))
def sameR (l m:List Rf):Bool:=eqB l.length m.length fun i=>sameF (l.getD i default) (m.getD i default)
theorem tyB_self (t:Ty):tyB t t=true:=by unfold tyB; simp
theorem intsB_self (L:List Int):intsB L L=true:=eqB_all fun j _=>by simp
theorem rf_cells {w':World} {g:Nat} (y:Rf) (b:Blk w' g 59 #[.string y.name,.int .i64 y.params,.int .i64 y.regs,.int .i64 y.ty.base,.int .i64 y.ty.bits,.string y.ty.name,.bool y.ty.opt,.bool y.ty.err,.slice y.A y.code.length y.cap]):w'.cell? ⟨g,0,none⟩=some (.string y.name)∧w'.cell? ⟨g,1,none⟩=some (.int .i64 y.params)∧w'.cell? ⟨g,2,none⟩=some (.int .i64 y.regs)∧w'.cell? ⟨g,3,none⟩=some (.int .i64 y.ty.base)∧w'.cell? ⟨g,4,none⟩=some (.int .i64 y.ty.bits)∧w'.cell? ⟨g,5,none⟩=some (.string y.ty.name)∧w'.cell? ⟨g,6,none⟩=some (.bool y.ty.opt)∧w'.cell? ⟨g,7,none⟩=some (.bool y.ty.err)∧w'.cell? ⟨g,8,none⟩=some (.slice y.A y.code.length y.cap) :=
 ⟨b.cell 0,b.cell 1,b.cell 2,b.cell 3,b.cell 4,b.cell 5,b.cell 6,b.cell 7,b.cell 8⟩
theorem rf_one (x:Rf):∀ v ∈ (#[.string x.name,.int .i64 x.params,.int .i64 x.regs,.int .i64 x.ty.base,.int .i64 x.ty.bits,.string x.ty.name,.bool x.ty.opt,.bool x.ty.err,.slice x.A x.code.length x.cap]:Array Value).toList,v.oneCell'=true:=by
 intro v hv
 simp at hv
 rcases hv with rfl | rfl | rfl | rfl | rfl | rfl | rfl | rfl | rfl <;> rfl
def SizesF (f:Rf):Prop:=f.code.length ≤ 9223372036854775806∧∀ x,x ∈ f.code → x.args.length ≤ 9223372036854775806
def pureX (x:Rg):Rg:={ x with A:=none,cap:=0 }
def pureF (f:Rf):Rf:={ f with A:=none,cap:=0,code:=f.code.map pureX }
def pureR (l:List Rf):List Rf:=l.map pureF
theorem getD_map {α β:Type} (f:α → β) (l:List α) (i:Nat) {d:α} {e:β} (h:f d=e):(l.map f).getD i e=f (l.getD i d):=by
 simp only [List.getD,List.getElem?_map]
 cases l[i]? with
 | none=>exact h.symm
 | some _=>rfl
theorem pure_getD (l:List Rf) (k:Nat):(pureR l).getD k default=pureF (l.getD k default):=getD_map pureF l k rfl
theorem pureF_getD (f:Rf) (p:Nat):(pureF f).code.getD p default=pureX (f.code.getD p default):=getD_map pureX f.code p rfl
theorem pureF_len (f:Rf):(pureF f).code.length=f.code.length:=by simp [pureF]
theorem pureR_len (l:List Rf):(pureR l).length=l.length:=by simp [pureR]
theorem countR_pure (l:List Rf):countR (pureR l)=countR l:=by
 unfold countR pureR
 rw [List.map_map]
 congr 1
 refine List.map_congr_left fun f _=>?_
 exact pureF_len f
theorem indexR_pure (l:List Rf) (nm:ByteArray):indexR (pureR l) nm=indexR l nm:=by
 unfold indexR
 rw [pureR_len]
 congr 1
 funext k
 rw [pure_getD]
 rfl
theorem callB_pure (l:List Rf) (nm:ByteArray) (n:Int):callB (pureR l) nm n=callB l nm n:=by
 unfold callB
 rw [indexR_pure,pure_getD]
 rfl
theorem instR_pure (pb:Bool) (regs code:Int) (x:Rg):instR pb regs code (pureX x)=instR pb regs code x:=by
 obtain ⟨op,d,a,b,ty,nm,A,cap,args⟩:=x
 rfl
theorem fcR_pure (l:List Rf) (f:Rf):fcR (pureR l) (pureF f)=fcR l f:=by
 unfold fcR
 rw [pureF_getD,pureF_len]
 have e:(pureF f).code.all (fun x=>instR (callB (pureR l) x.name x.args.length) (pureF f).regs f.code.length x)=f.code.all (fun x=>instR (callB l x.name x.args.length) f.regs f.code.length x):=by
  rw [show (pureF f).code=f.code.map pureX from rfl,show (pureF f).regs=f.regs from rfl,List.all_map]
  refine List.all_congr rfl fun x=>?_
  rw [Function.comp_apply,callB_pure,instR_pure,show (pureX x).name=x.name from rfl,show (pureX x).args=x.args from rfl]
 rw [e,show (pureF f).name=f.name from rfl,show (pureF f).params=f.params from rfl,show (pureF f).regs=f.regs from rfl,show (pureF f).ty=f.ty from rfl,show (pureX (f.code.getD (f.code.length - 1) default)).op=(f.code.getD (f.code.length - 1) default).op from rfl]
theorem validR_pure (l:List Rf):validR (pureR l)=validR l:=by
 unfold validR
 rw [pureR_len,countR_pure]
 have e:(∀ k,k < l.length → fcR (pureR l) ((pureR l).getD k default)=true∧indexR (pureR l) ((pureR l).getD k default).name=k) ↔ (∀ k,k < l.length → fcR l (l.getD k default)=true∧indexR l (l.getD k default).name=k):=by
  refine forall_congr' fun k=>forall_congr' fun _=>?_
  rw [pure_getD,fcR_pure,indexR_pure]
  rfl
 simp only [e]
theorem runE_pure (l:List Rf) (nm:ByteArray) (av:List Val):runE (pureR l) nm av=runE l nm av:=by
 unfold runE
 rw [validR_pure,indexR_pure,pure_getD]
 rfl
theorem stepF_pure (ck:Bool) (x:Rg) (p:Nat) (R S:Nat → Val):stepF ck (pureX x) p R S=stepF ck x p R S:=rfl
theorem code_pure (l:List Rf) (k p:Nat):((pureR l).getD k default).code.getD p default=pureX ((l.getD k default).code.getD p default):=by rw [pure_getD,pureF_getD]
theorem Run.pure {l:List Rf} {ck:Bool} {c:Cfg} {s:Nat} {e:En} {t:Nat} (h:Run l ck c s e t):Run (pureR l) ck c s e t:=by
 induction h with
 | deep h=>exact .deep h
 | enter h _ ih=>exact .enter h ih
 | full h=>exact .full h
 | done h h2=>exact .done h (by rw [code_pure,stepF_pure]; exact h2)
 | go h h2 _ ih=>exact .go h (by rw [code_pure,stepF_pure]; exact h2) ih
 | callX h h2 _ h4 ih=>exact .callX h (by rw [code_pure,stepF_pure]; exact h2) (by rw [indexR_pure]; exact ih) h4
 | callR h h2 _ _ ih1 ih2=>exact .callR h (by rw [code_pure,stepF_pure]; exact h2) (by rw [indexR_pure]; exact ih1) ih2
theorem outR_pure (l:List Rf) (nm:ByteArray) (av:List Val) (ck:Bool):outR (pureR l) nm av ck=outR l nm av ck:=by
 unfold outR
 rw [runE_pure,indexR_pure,runX_eq (runX_run l ck _ _).pure]
def LikeR (l m:List Rf):Prop:=pureR l=pureR m
theorem LikeR.len {l m:List Rf} (h:LikeR l m):l.length=m.length:=by
 have:=congrArg List.length h
 rwa [pureR_len,pureR_len] at this
theorem LikeR.at_ {l m:List Rf} (h:LikeR l m) (k:Nat):pureF (l.getD k default)=pureF (m.getD k default):=by
 rw [← pure_getD,← pure_getD,show pureR l=pureR m from h]
theorem sameX_like {x y:Rg} (h:pureX x=pureX y):sameX x y=true:=by
 obtain ⟨o1,d1,a1,b1,t1,n1,A1,c1,g1⟩:=x
 obtain ⟨o2,d2,a2,b2,t2,n2,A2,c2,g2⟩:=y
 simp only [pureX,Rg.mk.injEq] at h
 obtain ⟨rfl,rfl,rfl,rfl,rfl,rfl,_,_,rfl⟩:=h
 unfold sameX
 simp [tyB_self,intsB_self]
theorem pureF_parts {f g:Rf} (h:pureF f=pureF g):f.name=g.name∧f.params=g.params∧f.regs=g.regs∧f.ty=g.ty∧f.code.map pureX=g.code.map pureX:=by
 obtain ⟨n1,p1,r1,t1,A1,c1,g1⟩:=f
 obtain ⟨n2,p2,r2,t2,A2,c2,g2⟩:=g
 simp only [pureF,Rf.mk.injEq] at h
 obtain ⟨h1,h2,h3,h4,_,_,h5⟩:=h
 exact ⟨h1,h2,h3,h4,h5⟩
theorem sameF_like {f g:Rf} (h:pureF f=pureF g):sameF f g=true:=by
 obtain ⟨h1,h2,h3,h4,h5⟩:=pureF_parts h
 have hl:f.code.length=g.code.length:=by
  have:=congrArg List.length h5
  simpa using this
 unfold sameF
 rw [h1,h2,h3,h4,hl,eqB_all fun j _=>sameX_like ?_]
 ·simp [tyB_self]
 ·rw [← getD_map pureX f.code j (e:=default) rfl,← getD_map pureX g.code j (e:=default) rfl,h5]
theorem sameR_like {l m:List Rf} (h:LikeR l m):sameR l m=true:=by
 unfold sameR
 rw [h.len]
 exact eqB_all fun j _=>sameF_like (h.at_ j)
theorem validR_like {l m:List Rf} (h:LikeR l m):validR l=validR m:=by rw [← validR_pure l,← validR_pure m,show pureR l=pureR m from h]
theorem runE_like {l m:List Rf} (h:LikeR l m) (nm:ByteArray) (av:List Val):runE l nm av=runE m nm av:=by rw [← runE_pure l,← runE_pure m,show pureR l=pureR m from h]
theorem outR_like {l m:List Rf} (h:LikeR l m) (nm:ByteArray) (av:List Val) (ck:Bool):outR l nm av ck=outR m nm av ck:=by rw [← outR_pure l,← outR_pure m,show pureR l=pureR m from h]
theorem LikeR.symm {l m:List Rf} (h:LikeR l m):LikeR m l:=Eq.symm h
theorem LikeR.trans {l m n:List Rf} (h:LikeR l m) (g:LikeR m n):LikeR l n:=Eq.trans h g
def Rf.with_ (f:Rf) (c:List Rg):Rf:={ f with code:=c }
theorem map_at (c:List Rg) (p:Nat):(c.map pureX).getD p default=pureX (c.getD p default):=getD_map pureX c p rfl
section
variable {l:List Rf} {k:Nat} {g:Rf}
theorem set_at (hk:k < l.length) (j:Nat):(l.set k g).getD j default=if j=k then g else l.getD j default:=by
 simp only [List.getD,List.getElem?_set]
 by_cases e:k=j
 ·subst e
  rw [if_pos rfl,if_pos hk,if_pos rfl]
  rfl
 ·rw [if_neg e,if_neg (fun h=>e h.symm)]
end
end Go.Proofs.YtknaemlnhediaaaGreatDoor.c
