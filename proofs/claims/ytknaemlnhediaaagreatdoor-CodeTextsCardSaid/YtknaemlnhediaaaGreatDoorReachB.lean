/- One round of going through code, told plainly; the queue's first. No program in sight. -/
import Derived.Test.YtknaemlnhediaaaGreatDoorReach
namespace Go.Proofs.YtknaemlnhediaaaGreatDoor.c
open Go.RowKit
set_option linter.unusedVariables false
set_option linter.unusedSimpArgs false

def lkMs (c:List Cd) (S T:List (Int × Int)):Nat:=2 * (66 * c.length - S.length) + T.length
theorem Grow.ms {c:List Cd} {S T S' T':List (Int × Int)} (g:Grow c S T S' T') (hS:S'.length ≤ 66 * c.length):lkMs c S' T' ≤ lkMs c S T:=by
 have:=g.len
 have:=g.le
 unfold lkMs
 omega
noncomputable def S1 (S:List (Int × Int)) (x:Cd) (h:Int):List (Int × Int):=bif leadsS x.op then addS S (x.a,leadH x h) else S
noncomputable def T1 (S T:List (Int × Int)) (x:Cd) (h:Int):List (Int × Int):=bif leadsS x.op then addT S T (x.a,leadH x h) else T
section
variable {c:List Cd} {S T:List (Int × Int)} {H:Int → Option Int} {p:Int × Int} {wg:Int}
theorem LkInv.head (v:LkInv c S (p :: T) H wg):Reach c p∧T.Nodup∧(∀ q ∈ T,q ∈ S) :=
 ⟨v.all p (v.subT p (List.mem_cons_self ..)),(List.nodup_cons.1 v.ndT).2,fun q hq=>v.subT q (List.mem_cons_of_mem _ hq)⟩
theorem LkInv.lens {T:List (Int × Int)} (s:Sane c) (v:LkInv c S T H wg):S.length ≤ 66 * c.length∧T.length ≤ 66 * c.length :=
 ⟨pts_len v.nd fun p hp=>(v.all p hp).inb s,pts_len v.ndT fun p hp=>(v.all p (v.subT p hp)).inb s⟩
theorem LkInv.grow0 (v:LkInv c S (p :: T) H wg):Grow c S T S T:=Grow.refl v.nd v.head.2.1 v.head.2.2
theorem LkInv.grow1 (v:LkInv c S (p :: T) H wg) (ok:okH (xAt c p) p.2=true):Grow c S T (S1 S (xAt c p) p.2) (T1 S T (xAt c p) p.2):=by
 unfold S1 T1
 cases h:leadsS (xAt c p).op
 ·exact v.grow0
 ·exact v.grow0.add (v.head.1.lead ok h)
theorem LkInv.bad (s:Sane c) (v:LkInv c S (p :: T) H wg) (ok:okH (xAt c p) p.2=false):LkInv c S T (updH H p.1 p.2) (minS (wr1S H p wg) p.1)∧lkMs c S T < lkMs c S (p :: T):=by
 refine ⟨v.round s v.grow0 (fun h=>by rw [ok] at h; cases h) (.inl ⟨.inl ok,rfl⟩),?_⟩
 unfold lkMs
 simp
theorem lead_in {c:List Cd} {S:List (Int × Int)} {p:Int × Int} (h:leadsS (xAt c p).op=true):((xAt c p).a,leadH (xAt c p) p.2) ∈ S1 S (xAt c p) p.2:=by
 unfold S1
 rw [h]
 exact mem_addS.2 (.inr rfl)
theorem LkInv.ms1 {S' T':List (Int × Int)} {H':Int → Option Int} {w':Int} (s:Sane c) (v:LkInv c S (p :: T) H wg) (g:Grow c S T S' T') (v':LkInv c S' T' H' w'):lkMs c S' T' < lkMs c S (p :: T):=by
 have h1:=g.ms (v'.lens s).1
 have:lkMs c S T < lkMs c S (p :: T):=by
  unfold lkMs
  simp
 omega
theorem LkInv.stop (s:Sane c) (v:LkInv c S (p :: T) H wg) (ok:okH (xAt c p) p.2=true) (go:goesS (xAt c p)=false):LkInv c (S1 S (xAt c p) p.2) (T1 S T (xAt c p) p.2) (updH H p.1 p.2) (wr1S H p wg)∧lkMs c (S1 S (xAt c p) p.2) (T1 S T (xAt c p) p.2) < lkMs c S (p :: T):=by
 have g:=v.grow1 ok
 have r:=v.round s g (fun _=>⟨fun h=>lead_in h,fun h=>by rw [go] at h; cases h⟩) (.inr ⟨fun h=>by (rcases h with h | h; rw [ok] at h; cases h; rw [go] at h; exact absurd h.1 (by decide)),rfl⟩)
 exact ⟨r,v.ms1 s g r⟩
theorem LkInv.fall (s:Sane c) (v:LkInv c S (p :: T) H wg) (ok:okH (xAt c p) p.2=true) (go:goesS (xAt c p)=true) (he:p.1 + 1=c.length):LkInv c (S1 S (xAt c p) p.2) (T1 S T (xAt c p) p.2) (updH H p.1 p.2) (minS (wr1S H p wg) p.1)∧lkMs c (S1 S (xAt c p) p.2) (T1 S T (xAt c p) p.2) < lkMs c S (p :: T):=by
 have g:=v.grow1 ok
 have r:=v.round s g (fun _=>⟨fun h=>lead_in h,fun _ h=>absurd he h⟩) (.inl ⟨.inr ⟨go,he⟩,rfl⟩)
 exact ⟨r,v.ms1 s g r⟩
theorem LkInv.on (s:Sane c) (v:LkInv c S (p :: T) H wg) (ok:okH (xAt c p) p.2=true) (go:goesS (xAt c p)=true) (he:p.1 + 1 ≠ c.length) :
  LkInv c (addS (S1 S (xAt c p) p.2) (p.1 + 1,behS (xAt c p) p.2)) (addT (S1 S (xAt c p) p.2) (T1 S T (xAt c p) p.2) (p.1 + 1,behS (xAt c p) p.2)) (updH H p.1 p.2) (wr1S H p wg) ∧
   lkMs c (addS (S1 S (xAt c p) p.2) (p.1 + 1,behS (xAt c p) p.2)) (addT (S1 S (xAt c p) p.2) (T1 S T (xAt c p) p.2) (p.1 + 1,behS (xAt c p) p.2)) < lkMs c S (p :: T):=by
 have g:=(v.grow1 ok).add (v.head.1.next ok go he)
 have r:=v.round s g (fun _=>⟨fun h=>mem_addS.2 (.inl (lead_in h)),fun _ _=>mem_addS.2 (.inr rfl)⟩) (.inr ⟨fun h=>by (rcases h with h | h; rw [ok] at h; cases h; exact he h.2),rfl⟩)
 exact ⟨r,v.ms1 s g r⟩
end
theorem Que.pop {w:World} {base:Nat} {v:Value} {p:Int × Int} {l:List (Int × Int)} (h:Que w base v (p :: l)):∃ g off cap a2 c2,v=.slice (some ⟨g,off,none⟩) (l.length + 1) cap∧g < w.heap.size∧v.ownBlock=some g ∧
  w.cell? ⟨g,off,none⟩=some (.int .i64 p.1)∧w.cell? ⟨g,off + 1,none⟩=some (.int .i64 p.2)∧(∀ w',(Instr.slice 234 v (some (.int .i64 1)) none none).run Tryz.prog w'=.ok (.slice a2 l.length c2) w') ∧
  Que w base (.slice a2 l.length c2) l∧(Value.slice a2 l.length c2).ownBlock=some g:=by
 obtain ⟨g,off,cap,rfl,hb,hg,ho,h1,h2,c0,c1,hq⟩:=h.head
 refine ⟨g,off,cap,_,_,rfl,hg,ho,c0,c1,fun w'=>?_,hq,?_⟩
 ·have hz:(Tryz.prog.info? 210).map (·.size)=some 2:=by kernel_rfl
  obtain ⟨i,hi,hs⟩:=Option.map_eq_some_iff.1 hz
  have e1:(cap=1)=(cap - 1=0):=by rw [eq_iff_iff]; omega
  have hn:(1:Int) ≤ (l.length:Int) + 1:=by omega
  by_cases hc:cap=1
  ·subst hc
   simp [Instr.slice,run_underlying Tryz.underlying234,Instr.sliceBounds,Instr.sliceBound,sizeOf,typeInfo,hi,hs,Result.andThen,asIntOf,hn]
  ·have hc':¬ cap - 1=0:=by omega
   simp [Instr.slice,run_underlying Tryz.underlying234,Instr.sliceBounds,Instr.sliceBound,sizeOf,typeInfo,hi,hs,Result.andThen,asIntOf,hn,hc,hc',Addr.add_lit]
 ·by_cases hc:cap - 1=0
  ·rw [if_pos hc]; rfl
  ·rw [if_neg hc]; rfl
end Go.Proofs.YtknaemlnhediaaaGreatDoor.c
