/- Maps that the call made itself, told entry by entry: look-up, store. No condition. -/
import Derived.Test.YtcoookehfhhhdaaGreatDoorLib
import Derived.Maps.OwnSet
import Derived.DeepKeys4
namespace Go.Proofs.YtcoookehfhhhdaaGreatDoor.c
open Go.RowKit
open Go.Maps (Keyed)
set_option linter.unusedVariables false
set_option linter.unusedSimpArgs false

structure MapAt (w:World) (kt:TypeId) (b n:Nat) (V:Value → Option Value):Prop where
 out:∃ es clock,w.heap[b]?=some (.map es clock)∧es.size ≤ n∧(∀ e ∈ es.toList,∃ l,keyOf Tryz.prog kt e.key=some l)∧es.toList.Pairwise (fun x y=>x.key ≠ y.key) ∧
  (∀ e ∈ es.toList,V e.key=some e.val)∧(∀ x,(∀ e ∈ es.toList,e.key ≠ x) → V x=none)∧(∀ e ∈ es.toList,e.born < clock)∧(es.toList.map (·.born)).Nodup
theorem MapAt.lt {w:World} {kt:TypeId} {b n:Nat} {V:Value → Option Value} (h:MapAt w kt b n V):b < w.heap.size:=by
 obtain ⟨es,clock,hb,_⟩:=h
 exact (Array.getElem?_eq_some_iff.1 hb).1
theorem MapAt.keep {w w':World} {kt:TypeId} {b n:Nat} {V:Value → Option Value} (h:MapAt w kt b n V) (e:w'.heap[b]?=w.heap[b]?):MapAt w' kt b n V:=by
 obtain ⟨es,clock,hb,r⟩:=h
 exact ⟨es,clock,e.trans hb,r⟩
theorem MapAt.ext {w w':World} {kt:TypeId} {b n:Nat} {V:Value → Option Value} (h:MapAt w kt b n V) (x:Ext w w'):MapAt w' kt b n V:=h.keep (x.out.block b h.lt)
theorem MapAt.mono {w:World} {kt:TypeId} {b n m:Nat} {V:Value → Option Value} (h:MapAt w kt b n V) (hm:n ≤ m):MapAt w kt b m V:=by
 obtain ⟨es,clock,hb,hs,r⟩:=h
 exact ⟨es,clock,hb,Nat.le_trans hs hm,r⟩
theorem MapAt.made (w:World) (kt:TypeId):MapAt (w.alloc (.map #[] 0)) kt w.heap.size 0 (fun _=>none) :=
 ⟨#[],0,(MapKept.heap_alloc w _).1,Nat.le_refl _,by simp,by simp,by simp,by simp,by simp,by simp⟩
theorem MapAt.setCell {w:World} {kt:TypeId} {b n:Nat} {V:Value → Option Value} (h:MapAt w kt b n V) {a:Addr} (ha:b ≠ a.block) (u:Value):MapAt (w.setCell a u) kt b n V:=h.keep (Below.heap_setCell w a u b ha)
theorem MapAt.grown {w w':World} {row:Option Nat} {kt:TypeId} {b n:Nat} {V:Value → Option Value} (h:MapAt w kt b n V) (hg:w.grownBy w' row) (hne:some b ≠ row):MapAt w' kt b n V:=h.keep (hg.block b h.lt hne)
theorem MapAt.same {w:World} {kt:TypeId} {b n:Nat} {V V':Value → Option Value} (h:MapAt w kt b n V) (e:∀ x l,keyOf Tryz.prog kt x=some l → V x=V' x) (e2:∀ x,V' x ≠ none → V x ≠ none):MapAt w kt b n V':=by
 obtain ⟨es,clock,hb,hs,hk,hp,hv,hn,hbn⟩:=h
 refine ⟨es,clock,hb,hs,hk,hp,fun x hx=>?_,fun x hx=>?_,hbn⟩
 ·obtain ⟨l,hl⟩:=hk x hx
  rw [← e _ l hl]
  exact hv x hx
 ·have:=hn x hx
  cases hV:V' x
  ·rfl
  ·exact absurd this (e2 x (by rw [hV]; simp))
theorem MapAt.look {w:World} {kt t et:TypeId} {b n:Nat} {V:Value → Option Value} (h:MapAt w kt b n V) (K:Keyed Tryz.prog kt) (ht:Tryz.prog.underlying t=some (.map kt et)) {z:Value} (hz:∀ w,(zeroValue et).run Tryz.prog w=.ok z w)
  {key:Value} {l:Lit} (hkey:keyOf Tryz.prog kt key=some l) (c:Bool) :
  (Instr.lookup t (.map (some b)) key c).run Tryz.prog w=.ok (if c then .tuple #[(V key).getD z,.bool (V key).isSome] else (V key).getD z) w:=by
 obtain ⟨es,clock,hb,hs,hk,hp,hv,hn,hbn⟩:=h
 rcases K.find w hkey es.toList hk with ⟨f1,f2⟩ | ⟨j,e0,f1,f2,f3⟩
 ·rw [hn key f2]
  simp [Instr.lookup,run_underlying ht,MapKept.run_getObj_map hb,K.check w _ hkey,f1,hz,Result.andThen]
 ·have:=hv e0 (List.mem_of_getElem? f2)
  rw [f3] at this
  rw [this]
  simp [Instr.lookup,run_underlying ht,MapKept.run_getObj_map hb,K.check w _ hkey,f1,Result.andThen]
theorem MapAt.store {w:World} {kt t et:TypeId} {b n:Nat} {V V':Value → Option Value} (h:MapAt w kt b n V) (K:Keyed Tryz.prog kt) (ht:Tryz.prog.underlying t=some (.map kt et))
  {key:Value} {l:Lit} (hkey:keyOf Tryz.prog kt key=some l) (val:Value) (hv1:V' key=some val) (hv2:∀ x,x ≠ key → V' x=V x) :
  ∃ w',(Instr.mapUpdate t (.map (some b)) key val).run Tryz.prog w=.ok () w'∧MapAt w' kt b (n + 1) V'∧w.grownBy w' (some b)∧w'.heap.size=w.heap.size:=by
 obtain ⟨es,clock,hb,hs,hk,hp,hv,hn,hb1,hb2⟩:=h
 have gr:∀ o,w.grownBy (ChangeMaps.setBlock w b o) (some b):=fun o=>⟨rfl,rfl,rfl,by simp [ChangeMaps.setBlock],fun i _ hi=>ChangeMaps.heap_setBlock_other hb _ (fun e=>hi (by rw [e]))⟩
 have sz:∀ o,(ChangeMaps.setBlock w b o).heap.size=w.heap.size:=fun o=>by simp [ChangeMaps.setBlock]
 rcases K.find w hkey es.toList hk with ⟨f1,f2⟩ | ⟨j,e0,f1,f2,f3⟩
 ·refine ⟨ChangeMaps.setBlock w b (.map (es.push ⟨key,val,clock⟩) (clock + 1)),?_,⟨_,_,ChangeMaps.heap_setBlock_same hb _,?_,?_,?_,?_,?_,?_,?_⟩,gr _,sz _⟩
  ·simp [Instr.mapUpdate,run_underlying ht,MapKept.run_getObj_map hb,K.check w false hkey,f1,MapKept.run_setObj_map _ hb,Result.andThen,ChangeMaps.setBlock]
  ·simp; omega
  ·intro x hx
   simp only [Array.toList_push,List.mem_append,List.mem_singleton] at hx
   rcases hx with hx | rfl
   ·exact hk x hx
   ·exact ⟨l,hkey⟩
  ·rw [Array.toList_push,List.pairwise_append]
   exact ⟨hp,List.pairwise_singleton _ _,fun x hx y hy=>by rw [List.mem_singleton] at hy; subst hy; exact f2 x hx⟩
  ·intro x hx
   simp only [Array.toList_push,List.mem_append,List.mem_singleton] at hx
   rcases hx with hx | rfl
   ·rw [hv2 _ (f2 x hx)]; exact hv x hx
   ·exact hv1
  ·intro x hx
   simp only [Array.toList_push,List.mem_append,List.mem_singleton] at hx
   have:x ≠ key:=fun e=>hx ⟨key,val,clock⟩ (.inr rfl) e.symm
   rw [hv2 _ this]
   exact hn x (fun e he=>hx e (.inl he))
  ·intro x hx
   simp only [Array.toList_push,List.mem_append,List.mem_singleton] at hx
   rcases hx with hx | rfl
   ·have:=hb1 x hx; omega
   ·exact Nat.lt_succ_self _
  ·rw [Array.toList_push,List.map_append,List.nodup_append]
   refine ⟨hb2,by simp,fun a ha b hb=>?_⟩
   obtain ⟨x,hx,rfl⟩:=List.mem_map.1 ha
   have:=hb1 x hx
   simp at hb
   omega
 ·have hj:es[j]?=some e0:=by simpa using f2
  have hjl:j < es.toList.length:=(List.getElem?_eq_some_iff.1 f2).1
  have hlist:(es.modify j (fun e'=>{ e' with key:=key,val:=val })).toList=es.toList.set j { e0 with key:=key,val:=val }:=by rw [Array.toList_modify,List.modify_eq_set,f2]; rfl
  have he0:e0=es.toList[j]:=by have:=f2; rw [List.getElem?_eq_getElem hjl] at this; exact (Option.some.inj this).symm
  have who:∀ x ∈ es.toList.set j { e0 with key:=key,val:=val },x={ e0 with key:=key,val:=val } ∨ (x ∈ es.toList∧x.key ≠ key):=by
   intro x hx
   obtain ⟨i,hi,ex⟩:=List.getElem_of_mem hx
   rw [List.getElem_set] at ex
   split at ex
   ·exact Or.inl ex.symm
   ·rename_i hne
    have hi':i < es.toList.length:=by simpa using hi
    refine Or.inr ⟨ex ▸ List.getElem_mem hi',?_⟩
    rw [← f3,he0,← ex]
    rw [List.pairwise_iff_getElem] at hp
    rcases Nat.lt_or_gt_of_ne hne with h1 | h1
    ·exact (hp j i hjl hi' h1).symm
    ·exact hp i j hi' hjl h1
  have hkeys:(es.toList.set j { e0 with key:=key,val:=val }).map (·.key)=es.toList.map (·.key):=by
   rw [List.map_set]
   have:({ e0 with key:=key,val:=val }:MapEntry).key=(es.toList.map (·.key))[j]'(by simpa using hjl):=by rw [List.getElem_map,← he0,f3]
   rw [this]
   exact List.set_getElem_self _
  refine ⟨ChangeMaps.setBlock w b (.map (es.modify j (fun e'=>{ e' with key:=key,val:=val })) clock),?_,⟨_,_,ChangeMaps.heap_setBlock_same hb _,?_,?_,?_,?_,?_,?_,?_⟩,gr _,sz _⟩
  ·simp [Instr.mapUpdate,run_underlying ht,MapKept.run_getObj_map hb,K.check w false hkey,f1,hj,f3,K.stays w hkey,MapKept.run_setObj_map _ hb,Result.andThen,ChangeMaps.setBlock]
  ·simp; omega
  ·intro x hx
   rw [hlist] at hx
   rcases who x hx with rfl | ⟨hx',_⟩
   ·exact ⟨l,hkey⟩
   ·exact hk x hx'
  ·rw [hlist]
   have h1:(es.toList.map (·.key)).Pairwise (· ≠ ·):=by rw [List.pairwise_map]; exact hp
   rw [← hkeys,List.pairwise_map] at h1
   exact h1
  ·intro x hx
   rw [hlist] at hx
   rcases who x hx with rfl | ⟨hx',hne⟩
   ·exact hv1
   ·rw [hv2 _ hne]; exact hv x hx'
  ·intro x hx
   rw [hlist] at hx
   have hx2:∀ e ∈ es.toList,e.key ≠ x:=by
    intro e he hex
    have:x ∈ (es.toList.set j { e0 with key:=key,val:=val }).map (·.key):=by rw [hkeys]; exact List.mem_map.2 ⟨e,he,hex⟩
    obtain ⟨y,hy,rfl⟩:=List.mem_map.1 this
    exact hx y hy rfl
   have:x ≠ key:=fun e=>hx2 e0 (List.mem_of_getElem? f2) (by rw [f3,e])
   rw [hv2 _ this]
   exact hn x hx2
  ·intro x hx
   rw [hlist] at hx
   rcases who x hx with rfl | ⟨hx',_⟩
   ·exact hb1 e0 (List.mem_of_getElem? f2)
   ·exact hb1 x hx'
  ·have hbs:(es.toList.set j { e0 with key:=key,val:=val }).map (·.born)=es.toList.map (·.born):=by
    rw [List.map_set]
    have:({ e0 with key:=key,val:=val }:MapEntry).born=(es.toList.map (·.born))[j]'(by simpa using hjl):=by rw [List.getElem_map,← he0]
    rw [this]
    exact List.set_getElem_self _
   rw [hlist,hbs]
   exact hb2
theorem wpList_store_map {w:World} {ops:Array Oper} {rest:List Oper} {o:Oper} {a:Act} {Q:Exit → Act → World → Prop} (hg:o.guard=none) (m x v:Operand) (t:TypeId) (hop:o.op=Op.mapUpdate t m x v ∨ o.op=Op.insert t m x v)
  {kt et:TypeId} {b n:Nat} {V V':Value → Option Value} (K:Keyed Tryz.prog kt) (ht:Tryz.prog.underlying t=some (.map kt et)) (h:MapAt w kt b n V)
  (hm:a.eval m=.map (some b)) {key val:Value} {l:Lit} (hx:a.eval x=key) (hv:a.eval v=val) (hkey:keyOf Tryz.prog kt key=some l) (hv1:V' key=some val) (hv2:∀ x,x ≠ key → V' x=V x)
  (hK:∀ w',MapAt w' kt b (n + 1) V' → w.grownBy w' (some b) → w'.heap.size=w.heap.size → wpList Tryz.prog ops Q rest (a.put o.dst undef) w') :
  wpList Tryz.prog ops Q (o :: rest) a w:=by
 refine wpList_plain hg fun K' hK'=>?_
 obtain ⟨w',hrun,r1,r2,r3⟩:=h.store K ht hkey val hv1 hv2
 unfold Oper.wp
 rcases hop with hop | hop <;>
 ·simp [execOp,hop,hm,hx,hv,hrun,Result.andThen]
  exact hK' _ _ (hK w' r1 r2 r3)
theorem key_int:Keyed Tryz.prog 3 := Maps.int_keyed Tryz.underlying3
theorem keyOf_i {i:Int} (h0:-9223372036854775808 ≤ i) (h1:i ≤ 9223372036854775807):∃ l,keyOf Tryz.prog 3 (.int .i64 i)=some l:=⟨_,Maps.keyOf_int_mk Tryz.underlying3 (WalkArith.wf_i64 (by omega))⟩
theorem laid_out:laidOutB Tryz.prog=true:=by kernel_rfl
theorem key_point:Keyed Tryz.prog 109 := Keyed.of_law (deep_law_laid laid_out (m:=2) (by omega) (of_decide_eq_true (by kernel_rfl)) (by kernel_rfl) (by kernel_rfl))
theorem keyOf_pt {a h:Int} (h0:-9223372036854775808 ≤ a) (h1:a ≤ 9223372036854775807) (h2:-9223372036854775808 ≤ h) (h3:h ≤ 9223372036854775807):∃ l,keyOf Tryz.prog 109 (.agg #[.int .i64 a,.int .i64 h])=some l:=by
 have hd:Tryz.prog.keyType 109 = true:=by kernel_rfl
 have wa:(Lit.int .i64 a).wf=true:=WalkArith.wf_i64 (by omega)
 have wh:(Lit.int .i64 h).wf=true:=WalkArith.wf_i64 (by omega)
 have hf:(Value.agg #[.int .i64 a,.int .i64 h]).formed Tryz.prog 109 = true:=by simp [Value.formed,Tryz.underlying109,show Tryz.prog.cellsOf 109 = 2 from by kernel_rfl]
 obtain ⟨d,hds⟩:=Nat.exists_eq_succ_of_ne_zero (show Tryz.prog.types.size ≠ 0 from by rw [show Tryz.prog.types.size=Tryz.prog.types.size from rfl]; exact of_decide_eq_true (by kernel_rfl))
 have hl:Tryz.prog.keyLits (Tryz.prog.types.size + 1) 109 [.int .i64 a,.int .i64 h]=some [.int .i64 a,.int .i64 h]:=by
  rw [hds]
  simp [Program.keyLits,Tryz.underlying109,Tryz.underlying3,show Tryz.prog.cellsOf 109 = 2 from by kernel_rfl,show Tryz.prog.cellsOf 3 = 1 from by kernel_rfl,wa,wh]
 refine ⟨.string (keyBytes [.int .i64 a,.int .i64 h]),?_⟩
 unfold keyOf
 rw [Tryz.underlying109]
 simp only [hd,hf,Bool.and_self,if_true]
 rw [show (Value.agg #[.int .i64 a,.int .i64 h]).cells.toList=[.int .i64 a,.int .i64 h] from rfl,hl]
 rfl
end Go.Proofs.YtcoookehfhhhdaaGreatDoor.c
