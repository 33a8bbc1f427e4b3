/- The tokens that the program's iterator hands out are the reference's: plain law, and the iterator's contract. Condition: the text lies in a box; a loop's body leaves tables and texts alone. The iterator over a text's tokens: its contract, whatever a loop's body does that leaves tables and texts alone. -/
import Derived.Test.YtobfbfbjccmbiaaGreatDoorVg
import Derived.RangeFuncNested
import Derived.RangeFuncBound
import Derived.RangeFuncCalls
import Derived.RangeFuncLeaves
import Derived.Shelf.Abstract
import Derived.Shelf.RegionOpen
import Derived.OwnWalkIn
import Derived.TacticsInMore
import Derived.LoopNIn
import Derived.LoopIn
namespace Go.Proofs.YtobfbfbjccmbiaaGreatDoor.c
open Go.RowKit
attribute [local go_sem] Oper.semAt_some
set_option linter.unusedVariables false
set_option maxRecDepth 100000
set_option maxHeartbeats 3200000
set_option linter.unusedSimpArgs false
theorem sgL_le (l:List UInt8):∀ k,(sgL l k).2 ≤ k
 | 0=>Nat.le_refl _
 | k + 1=>by
  unfold sgL
  split
  ·exact Nat.le_refl _
  ·exact Nat.le_succ_of_le (sgL_le l k)
theorem tw_le (l:List UInt8):(l.takeWhile okB).length ≤ l.length:=(List.takeWhile_sublist _).length_le
theorem fs2_len:∀ l:List UInt8,(fs2 l).2 ≤ l.length
 | []=>Nat.le_refl _
 | c :: r=>by
  by_cases k1:isLet c.toNat=true
  ·rw [fs2_let k1]; exact tw_le _
  by_cases k2:isDig c.toNat=true
  ·rw [fs2_dig k1 k2]; exact tw_le _
  by_cases k3:c.toNat=64∧(match r with | []=>false | d :: _=>isLet d.toNat)=true
  ·cases r with
   | nil=>exact absurd k3.2 (by simp)
   | cons d r =>
    rw [fs2_at k1 k2 k3.1 k3.2]
    have:=tw_le (d :: r)
    simp only [List.length_cons] at this ⊢
    omega
  ·rw [fs2_sg k1 k2 k3]
   have:=sgL_le (c :: r) (min 2 (r.length + 1))
   simp only [List.length_cons]
   omega
def yl (s:ByteArray) (a:Nat):List Tok :=
 if h:a < s.size then
  if blank (s[a]'h).toNat then yl s (a + 1)
  else
   if hn:(fs2 (s.data.toList.drop a)).2=0 then [⟨(fs2 (s.data.toList.drop a)).1,a,⟨#[]⟩⟩]
   else ⟨(fs2 (s.data.toList.drop a)).1,a,s.extract a (a + (fs2 (s.data.toList.drop a)).2)⟩ :: yl s (a + (fs2 (s.data.toList.drop a)).2)
 else []
termination_by s.size - a
theorem yl_end {s:ByteArray} {a:Nat} (h:¬ a < s.size):yl s a=[]:=by rw [yl,dif_neg h]
theorem yl_blank {s:ByteArray} {a:Nat} (h:a < s.size) (hb:blank (s[a]'h).toNat=true):yl s a=yl s (a + 1):=by rw [yl,dif_pos h,if_pos hb]
theorem yl_no {s:ByteArray} {a:Nat} (h:a < s.size) (hb:blank (s[a]'h).toNat=false) (hn:(fs2 (s.data.toList.drop a)).2=0):yl s a=[⟨(fs2 (s.data.toList.drop a)).1,a,⟨#[]⟩⟩]:=by
 rw [yl,dif_pos h,if_neg (by rw [hb]; decide),dif_pos hn]
theorem yl_yes {s:ByteArray} {a:Nat} (h:a < s.size) (hb:blank (s[a]'h).toNat=false) (hn:¬ (fs2 (s.data.toList.drop a)).2=0) :
  yl s a=⟨(fs2 (s.data.toList.drop a)).1,a,s.extract a (a + (fs2 (s.data.toList.drop a)).2)⟩ :: yl s (a + (fs2 (s.data.toList.drop a)).2):=by
 rw [yl,dif_pos h,if_neg (by rw [hb]; decide),dif_neg hn]
theorem sg_two:∀ l:List UInt8,l.length=2 → (sgnB l=true ↔ ∃ g ∈ signsB.take 12,g.data.toList=l):=by
 intro l hl
 have h2:(sgB.filter fun k=>k.length == 2)=[[61,61],[33,61],[60,61],[62,61],[43,37],[43,124],[45,37],[45,124],[42,37],[46,46],[46,63],[61,62]]:=by decide
 have h3:(signsB.take 12).map (fun g=>g.data.toList)=[[61,61],[33,61],[60,61],[62,61],[43,37],[43,124],[45,37],[45,124],[42,37],[46,46],[46,63],[61,62]]:=by decide
 unfold sgnB
 rw [List.any_eq_true]
 constructor
 ·rintro ⟨k,hk,e⟩
  obtain rfl:=beq_iff_eq.1 e
  have:l ∈ (signsB.take 12).map (fun g=>g.data.toList):=by rw [h3,← h2]; exact List.mem_filter.2 ⟨hk,by simp [hl]⟩
  obtain ⟨g,hg,e⟩:=List.mem_map.1 this
  exact ⟨g,hg,e⟩
 ·rintro ⟨g,hg,e⟩
  have:l ∈ (sgB.filter fun k=>k.length == 2):=by rw [h2,← h3]; exact List.mem_map.2 ⟨g,hg,e⟩
  exact ⟨l,(List.mem_filter.1 this).1,beq_self_eq_true l⟩
theorem sg_one:∀ l:List UInt8,l.length=1 → (sgnB l=true ↔ ∃ g ∈ signsB.drop 12,g.data.toList=l):=by
 intro l hl
 have h2:∀ k,k ∈ (sgB.filter fun k=>k.length == 1) ↔ k ∈ (signsB.drop 12).map (fun g=>g.data.toList):=by
  have:(sgB.filter fun k=>k.length == 1).all (fun k=>((signsB.drop 12).map (fun g=>g.data.toList)).contains k)=true∧((signsB.drop 12).map (fun g=>g.data.toList)).all (fun k=>(sgB.filter fun k=>k.length == 1).contains k)=true:=by decide
  intro k
  constructor
  ·intro h; simpa using List.all_eq_true.1 this.1 k h
  ·intro h; simpa using List.all_eq_true.1 this.2 k h
 unfold sgnB
 rw [List.any_eq_true]
 constructor
 ·rintro ⟨k,hk,e⟩
  obtain rfl:=beq_iff_eq.1 e
  obtain ⟨g,hg,e⟩:=List.mem_map.1 ((h2 l).1 (List.mem_filter.2 ⟨hk,by simp [hl]⟩))
  exact ⟨g,hg,e⟩
 ·rintro ⟨g,hg,e⟩
  exact ⟨l,(List.mem_filter.1 ((h2 l).2 (List.mem_map.2 ⟨g,hg,e⟩))).1,beq_self_eq_true l⟩
theorem mt_iff {L:List UInt8} {a:Nat} {g:List UInt8} (hg:0 < g.length):mt L a g=true ↔ (L.drop a).take g.length=g:=by
 unfold mt
 simp only [Bool.and_eq_true,decide_eq_true_eq,beq_iff_eq]
 constructor
 ·exact fun h=>h.2
 ·intro h
  refine ⟨?_,h⟩
  have:=congrArg List.length h
  rw [List.length_take,List.length_drop] at this
  omega
theorem sgB_parts:signsB=signsB.take 12 ++ signsB.drop 12∧(∀ g ∈ signsB.take 12,g.data.toList.length=2)∧(∀ g ∈ signsB.drop 12,g.data.toList.length=1):=⟨(List.take_append_drop _ _).symm,by decide,by decide⟩
theorem sgL_find {L:List UInt8} {a:Nat} (h:a < L.length):match signsB.find? (fun g=>mt L a g.data.toList) with
  | none=>sgL (L.drop a) (min 2 (L.drop a).length)=(0,0)
  | some g=>sgL (L.drop a) (min 2 (L.drop a).length)=(2,g.size)∧0 < g.size:=by
 obtain ⟨hp,h2,h1⟩:=sgB_parts
 have hl:(L.drop a).length=L.length - a:=List.length_drop
 have k1:∀ l:List UInt8,0 < l.length → sgL l 1=if sgnB (l.take 1)=true then (2,1) else (0,0):=fun l _=>rfl
 have one:match (signsB.drop 12).find? (fun g=>mt L a g.data.toList) with
   | none=>sgL (L.drop a) 1=(0,0)
   | some g=>sgL (L.drop a) 1=(2,g.size)∧0 < g.size:=by
  have hs1:=sg_one ((L.drop a).take 1) (by rw [List.length_take]; omega)
  cases hf:(signsB.drop 12).find? (fun g=>mt L a g.data.toList) with
  | none =>
   have hn:=List.find?_eq_none.1 hf
   show sgL (L.drop a) 1=(0,0)
   rw [k1 _ (by omega),if_neg]
   intro hq
   obtain ⟨g,hg,e⟩:=hs1.1 hq
   exact hn g hg ((mt_iff (by rw [h1 g hg]; decide)).2 (by rw [h1 g hg,e]))
  | some g =>
   have hg:=List.mem_of_find?_eq_some hf
   have hm:=List.find?_some hf
   have e:=(mt_iff (by rw [h1 g hg]; decide)).1 hm
   rw [h1 g hg] at e
   have hz:g.size=1:=by rw [Lib.size_eq,h1 g hg]
   refine ⟨?_,by omega⟩
   rw [k1 _ (by omega),if_pos (hs1.2 ⟨g,hg,e.symm⟩),hz]
 rcases Nat.lt_or_ge 1 (L.drop a).length with hlen | hlen
 ·rw [show min 2 (L.drop a).length=2 by omega]
  have hs2:=sg_two ((L.drop a).take 2) (by rw [List.length_take]; omega)
  have e2:sgL (L.drop a) 2=if sgnB ((L.drop a).take 2)=true then (2,2) else sgL (L.drop a) 1:=rfl
  rw [hp,List.find?_append]
  cases hf:(signsB.take 12).find? (fun g=>mt L a g.data.toList) with
  | none =>
   have hn:=List.find?_eq_none.1 hf
   rw [Option.none_or,e2,if_neg]
   ·exact one
   ·intro hq
    obtain ⟨g,hg,e⟩:=hs2.1 hq
    exact hn g hg ((mt_iff (by rw [h2 g hg]; decide)).2 (by rw [h2 g hg,e]))
  | some g =>
   have hg:=List.mem_of_find?_eq_some hf
   have hm:=List.find?_some hf
   have e:=(mt_iff (by rw [h2 g hg]; decide)).1 hm
   rw [h2 g hg] at e
   have hz:g.size=2:=by rw [Lib.size_eq,h2 g hg]
   rw [Option.some_or]
   refine ⟨?_,by omega⟩
   rw [e2,if_pos (hs2.2 ⟨g,hg,e.symm⟩),hz]
 ·rw [show min 2 (L.drop a).length=1 by omega,hp,List.find?_append]
  cases hf:(signsB.take 12).find? (fun g=>mt L a g.data.toList) with
  | none=>rw [Option.none_or]; exact one
  | some g =>
   have hg:=List.mem_of_find?_eq_some hf
   have hm:=List.find?_some hf
   have e:=congrArg List.length ((mt_iff (by rw [h2 g hg]; decide)).1 hm)
   rw [List.length_take,h2 g hg] at e
   omega
theorem fst_fs {L:List UInt8} {a:Nat} (h:a < L.length):(fst3 L a).2.2=decide ((fs2 (L.drop a)).2 ≠ 0)∧((fs2 (L.drop a)).2 ≠ 0 → (fst3 L a).1=(fs2 (L.drop a)).1∧(fst3 L a).2.1=a + (fs2 (L.drop a)).2):=by
 obtain ⟨c,hc⟩:∃ c,L[a]?=some c:=⟨_,List.getElem?_eq_getElem h⟩
 have hd:L.drop a=c :: L.drop (a + 1):=by rw [List.drop_eq_getElem_cons h]; congr 1; rw [List.getElem?_eq_getElem h] at hc; exact Option.some.inj hc
 have hsg:=sgL_find h
 unfold fst3
 rw [hc]
 simp only
 by_cases k1:isLet c.toNat=true
 ·have hp:0 < ((c :: L.drop (a + 1)).takeWhile okB).length:=by
   rw [List.takeWhile_cons,if_pos (by unfold okB; rw [k1]; rfl)]; simp
  rw [if_pos k1,hd,fs2_let k1]
  exact ⟨(decide_eq_true (by omega)).symm,fun _=>⟨rfl,rfl⟩⟩
 rw [if_neg k1]
 by_cases k2:isDig c.toNat=true
 ·have hp:0 < ((c :: L.drop (a + 1)).takeWhile okB).length:=by
   rw [List.takeWhile_cons,if_pos (by unfold okB; rw [k2,Bool.or_true])]; simp
  rw [if_pos k2,hd,fs2_dig k1 k2]
  exact ⟨(decide_eq_true (by omega)).symm,fun _=>⟨rfl,rfl⟩⟩
 rw [if_neg k2]
 have hl1:∀ r,min 2 (c :: r).length=min 2 (r.length + 1):=fun r=>rfl
 by_cases k3:c.toNat=64
 ·rw [if_pos k3]
  have hno:sgL (c :: L.drop (a + 1)) (min 2 ((L.drop (a + 1)).length + 1))=(0,0):=by
   have hc64:c=64:=UInt8.toNat_inj.1 (by rw [k3]; rfl)
   have hall:∀ k ∈ sgB,k.head? ≠ some 64:=by decide
   have hz:∀ k,sgnB ((c :: L.drop (a + 1)).take (k + 1))=false:=fun k=>by
    rw [hc64,List.take_succ_cons]
    unfold sgnB
    rw [List.any_eq_false]
    intro q hq e
    have:=hall q hq
    rw [← beq_iff_eq.1 e] at this
    exact this rfl
   have:∀ k,sgL (c :: L.drop (a + 1)) k=(0,0):=fun k=>by
    induction k with
    | zero=>rfl
    | succ k ih=>unfold sgL; rw [if_neg (by rw [hz k]; decide),ih]
   exact this _
  cases hn:L[a + 1]? with
  | none =>
   have hr:L.drop (a + 1)=[]:=List.drop_eq_nil_of_le (List.getElem?_eq_none_iff.1 hn)
   rw [hd,fs2_sg k1 k2 (by rw [hr]; simp),hno]
   exact ⟨rfl,fun h=>absurd rfl h⟩
  | some d =>
   have hlt:a + 1 < L.length:=(List.getElem?_eq_some_iff.1 hn).1
   have hr:L.drop (a + 1)=d :: L.drop (a + 2):=by rw [List.drop_eq_getElem_cons hlt]; congr 1; rw [List.getElem?_eq_getElem hlt] at hn; exact Option.some.inj hn
   simp only
   by_cases k4:isLet d.toNat=true
   ·rw [if_pos k4,hd,hr,fs2_at k1 k2 k3 k4]
    exact ⟨(decide_eq_true (by omega)).symm,fun _=>⟨rfl,Nat.add_assoc a 1 _⟩⟩
   ·rw [if_neg k4,hd,fs2_sg k1 k2 (by rw [hr]; exact fun h=>k4 h.2),hno]
    exact ⟨rfl,fun h=>absurd rfl h⟩
 ·rw [if_neg k3,hd,fs2_sg k1 k2 (fun h=>k3 h.1)]
  rw [hd,hl1] at hsg
  cases hf:signsB.find? (fun g=>mt L a g.data.toList) with
  | none =>
   rw [hf] at hsg
   have hsg:sgL (c :: L.drop (a + 1)) (min 2 ((L.drop (a + 1)).length + 1))=(0,0):=hsg
   rw [hsg]
   exact ⟨rfl,fun h=>absurd rfl h⟩
  | some g =>
   rw [hf] at hsg
   have hsg:sgL (c :: L.drop (a + 1)) (min 2 ((L.drop (a + 1)).length + 1))=(2,g.size)∧0 < g.size:=hsg
   rw [hsg.1]
   exact ⟨(decide_eq_true (by have:=hsg.2; show g.size ≠ 0; omega)).symm,fun _=>⟨rfl,rfl⟩⟩
def hasT (x:Tok):Bool:=decide (0 < x.text.size)
theorem toks_yl (s:ByteArray):∀ n a acc,s.size - a ≤ n → a ≤ s.size →
  ((∀ x ∈ yl s a,hasT x=true) → toks s a acc=(acc ++ yl s a,0,true))∧(∀ pre x,yl s a=pre ++ [x] → hasT x=false → toks s a acc=([],x.at_,false))∧(∀ x ∈ yl s a,hasT x=false → ∃ pre,yl s a=pre ++ [x])∧(yl s a).length ≤ s.size - a:=by
 intro n
 induction n with
 | zero =>
  intro a acc hn ha
  have:¬ a < s.size:=by omega
  rw [yl_end this,toks_end this]
  exact ⟨fun _=>by simp,fun pre x h=>absurd h (by simp),fun x h=>absurd h (by simp),by simp⟩
 | succ n ih =>
  intro a acc hn ha
  by_cases h:a < s.size
  ·cases hb:blank (s[a]'h).toNat
   case true =>
    rw [yl_blank h hb,toks_blank h hb]
    obtain ⟨i1,i2,i3,i4⟩:=ih (a + 1) acc (by omega) (by omega)
    exact ⟨i1,i2,i3,by omega⟩
   case false =>
    have hlt:a < s.data.toList.length:=by rw [← Lib.size_eq]; exact h
    obtain ⟨f1,f2⟩:=fst_fs hlt
    by_cases h0:(fs2 (s.data.toList.drop a)).2=0
    ·rw [h0] at f1
     rw [yl_no h hb h0,toks_no h hb (by rw [f1]; rfl)]
     refine ⟨fun hx=>absurd (hx _ (List.mem_singleton_self _)) (fun h=>Bool.noConfusion (show false=true from h)),fun pre x e _=>?_,fun x hx _=>⟨[],by rw [List.mem_singleton.1 hx]; rfl⟩,by simp; omega⟩
     have e1:=congrArg List.length e
     rw [List.length_append] at e1
     have:pre=[]:=List.eq_nil_of_length_eq_zero (by simpa using e1)
     rw [this] at e
     have e2:=(List.cons.inj e).1
     rw [← e2]
    ·have hle:=fs2_len (s.data.toList.drop a)
     rw [List.length_drop,← Lib.size_eq] at hle
     obtain ⟨g1,g2⟩:=f2 h0
     obtain ⟨i1,i2,i3,i4⟩:=ih (a + (fs2 (s.data.toList.drop a)).2) (acc ++ [⟨(fs2 (s.data.toList.drop a)).1,a,s.extract a (a + (fs2 (s.data.toList.drop a)).2)⟩]) (by omega) (by omega)
     have hsz:hasT ⟨(fs2 (s.data.toList.drop a)).1,a,s.extract a (a + (fs2 (s.data.toList.drop a)).2)⟩=true:=by
      unfold hasT
      simp only [ByteArray.size_extract,decide_eq_true_eq]
      omega
     rw [yl_yes h hb h0,toks_yes h hb (by rw [f1]; exact decide_eq_true h0),g1,g2]
     refine ⟨fun hx=>?_,fun pre x e hx=>?_,fun x hx hxt=>?_,by simp; omega⟩
     ·rw [i1 fun x hx'=>hx x (List.mem_cons_of_mem _ hx'),List.append_assoc]; rfl
     ·cases pre with
      | nil =>
       have e1:=List.cons.inj e
       rw [← e1.1] at hx
       rw [hsz] at hx
       cases hx
      | cons y pre=>exact i2 pre x (List.cons.inj e).2 hx
     ·rcases List.mem_cons.1 hx with rfl | hx
      ·rw [hsz] at hxt; cases hxt
      ·obtain ⟨pre,e⟩:=i3 x hx hxt
       exact ⟨_ :: pre,by rw [e]; rfl⟩
  ·rw [yl_end h,toks_end h]
   exact ⟨fun _=>by simp,fun pre x h=>absurd h (by simp),fun x h=>absurd h (by simp),by simp⟩
attribute [local go_sem] Oper.semAt_some
set_option linter.unusedVariables false
def KpT (W W':World):Prop:=W.heap.size ≤ W'.heap.size∧∀ (b:Nat) (cs:Array Value) (fr:Nat × Nat) (t:TypeId),(t = 112 ∨ t = 9) → W.heap[b]?=some (Obj.cells cs t fr) → W'.heap[b]?=some (Obj.cells cs t fr)
theorem KpT.trans {A B C:World} (h:KpT A B) (k:KpT B C):KpT A C:=⟨Nat.le_trans h.1 k.1,fun b cs fr t ht hb=>k.2 b cs fr t ht (h.2 b cs fr t ht hb)⟩
theorem KpT.putObj {W:World} {l:Nat} {o:Obj} (o':Obj) (hl:W.heap[l]?=some o) (ho:o.isCells=false):KpT W (W.putObj l o') :=
 ⟨by simp,fun b cs fr t ht hb=>(World.putObj_heap_other (fun e=>by subst e; rw [hl] at hb; cases hb; cases ho)).trans hb⟩
theorem KpT.ext {W W':World} (x:Ext W W'):KpT W W':=⟨x.size,fun b cs fr t ht hb=>(x.out.block b (Array.getElem?_eq_some_iff.1 hb).1).trans hb⟩
theorem Ext.grownBy {W W':World} (x:Ext W W'):W.grownBy W' none:=⟨x.out.os,x.out.tape,x.out.output,x.out.size,fun k hk _=>x.out.block k hk⟩
def encT (x:Tok):Array Value:=#[.agg #[.int .i64 x.kind,.int .i64 x.at_,.string x.text]]
theorem cls_blank {c:Nat} (h:blank c=true):cls c=1:=by
 have:c=32 ∨ c=10:=by simpa [blank] using h
 rcases this with rfl | rfl <;> decide
theorem cls_noblank {c:Nat} (h:blank c=false):¬ cls c=1:=by
 have hn:¬ (c=32 ∨ c=10):=by simpa [blank] using h
 unfold cls
 rw [if_neg hn]
 cases isLet c <;> cases isDig c <;> simp
theorem iof_nt (i:Nat):(intOf (Value.int IntKind.i64 (i:Int))).toNat=i:=Int.toNat_natCast i
theorem iof_plus (i j:Nat):(intOf (Value.int IntKind.i64 ((i:Int) + (j:Int)))).toNat=i + j:=Int.toNat_natCast (i + j)
theorem iof_suc (i:Nat):(intOf (Value.int IntKind.i64 ((i:Int) + 1))).toNat=i + 1:=Int.toNat_natCast (i + 1)
theorem tok_it (n:Nat) (hn:1 ≤ n) (bn:Nat) (s:ByteArray) (hs:s.size ≤ 4000) (w:World) (hbn:Blk w bn 9 #[.string s]) :
  SeqStopsK Fence.wide n Tryz.prog 73 #[.pointer (some ⟨bn,0,none⟩)] encT KpT (fun ys=>ys=yl s 0) (fun pre=>pre <+: yl s 0) s.size w:=by
 intro l J Jx W hW hJ hJx hY h0
 have hz0:Tryz.zeroCells112 = tab (fun _=>0):=by kernel_rfl
 have HZ0:=Lib.hid hz0
 have hsz:(Tryz.prog.info? 112).map (·.size)=some (tab cls).size:=by rw [tab_size]; kernel_rfl
 have HZ:=Lib.hid hsz
 clear hz0 hsz
 have hJ':=fun pre W1 W2 (x:Ext W1 W2) (h:J pre W1)=>hJ pre W1 W2 none h x.grownBy (fun r e=>by cases e)
 have HJ:=Lib.hid hJ'
 have HY:=Lib.hid hY
 have B0:Blk W bn 9 #[.string s]:=(hW.block bn hbn.lt).trans hbn
 have b0:W.cell? ⟨bn,0,none⟩=some (.string s):=B0.cell 0
 have hbl:=B0.lt
 clear hJ' hJ hJx hY hW hbn
 refine callsIn_of_wp Tryz.func73 rfl trivial ?_ rfl
 simp only [Tryz.ntmps73,List.size_toArray,List.length_cons,List.length_nil,Nat.reduceAdd,Nat.reduceSub,Array.replicate_succ,Array.replicate_zero,List.push_toArray,List.append_toArray,List.nil_append,List.cons_append]
 refine wpIn_wide.2 ?_
 go_wp2_with (first
  | (go_at_call 65; refine (classes_any _).mono ?_; rintro e w1 ⟨rfl,x1⟩)
  | ((with_reducible show wpList _ _ _ (Oper.mk none (.store 112 (.tmp 3) _) _ _ _ _ :: _) _ _); refine wpList_store_row rfl 112 _ _ rfl w1.heap.size rfl 112 (tab fun _=>0) (tab cls) (by rw [← HZ0.out]; exact Blk.new _ _ _) rfl (by rw [tab_size,tab_size]) (tab_one cls) HZ.out ?_
     obtain ⟨w2,hw2⟩:∃ w2,(w1.alloc (.cells Tryz.zeroCells112 112)).setRow w1.heap.size (tab cls)=w2:=⟨_,rfl⟩
     have X2:Hid (Ext W w2):=by rw [← hw2]; exact (x1.alloc _).setRow x1.size _
     have T2:Hid (Blk w2 w1.heap.size 112 (tab cls)):=by rw [← hw2]; exact Blk.row (Blk.new w1 _ _) _
     rw [hw2]
     clear hw2))
 generalize w1.heap.size=bo at T2 ⊢
 have J2:=HJ.out _ _ _ X2.out h0
 have B2:=B0.ext X2.out
 clear x1
 go_loopw [4] (fun u wr=>∃ (a:Nat) (pre:List Tok),u=.int .i64 a∧a ≤ s.size∧Hid (pre ++ yl s a=yl s 0)∧pre.length ≤ a∧Hid (J pre wr)∧Hid (Blk wr bn 9 #[.string s])∧Hid (Blk wr bo 112 (tab cls))) (fun u _=>s.size - (intOf u).toNat)
 case atStart=>exact ⟨0,[],rfl,Nat.zero_le _,rfl,Nat.zero_le _,J2,B2,T2⟩
 case round =>
  clear X2 J2 B2 T2 b0 B0 h0
  obtain ⟨a,pre,rfl,ha,hp,hpl,Jr,Br,Tr⟩:=hrel
  have d0:wr.cell? ⟨bn,0,none⟩=some (.string s):=Br.out.cell 0
  have hlb:=Br.out.lt
  have hlt:=Tr.out.lt
  by_cases hlta:a < s.size
  ·have hai:(a:Int) < (s.size:Int):=by omega
   have hb256:((s[a]'hlta).toNat:Int) < 256:=by have:=UInt8.toNat_lt (s[a]'hlta); omega
   have e0:wr.cell? ⟨bo,(s[a]'hlta).toNat,none⟩=some (.int .u8 (cls (s[a]'hlta).toNat)):=(Tr.out.cell _).trans (tab_get cls _ (UInt8.toNat_lt _))
   have hwa:wrap64 ((a:Int) + 1)=(a:Int) + 1:=IntWalk.wrap64_in _ (by omega)
   cases hbk:blank (s[a]'hlta).toNat
   case true =>
    have hcl:cls (s[a]'hlta).toNat=1:=cls_blank hbk
    rw [hcl] at e0
    have HP:Hid (pre ++ yl s (a + 1)=yl s 0):=by rw [← yl_blank hlta hbk]; exact hp.out
    clear hbk hcl hp
    go_wp2_with fail
    case roundEnd=>exact ⟨⟨a + 1,pre,rfl,hlta,HP,by omega,Jr,Br,Tr⟩,by rw [iof_suc,iof_nt]; exact Nat.sub_lt_sub_left hlta (Nat.lt_succ_self a)⟩
   case false =>
    have hcl:¬ cls (s[a]'hlta).toNat=1:=cls_noblank hbk
    clear hwa
    have HF:=lfirst_any bo (s.extract a s.size) wr (by simp; omega) (by simp; omega) hlt (fun j hj=>(Tr.out.cell j).trans (tab_get cls j hj))
    rw [show (s.extract a s.size).data.toList=s.data.toList.drop a by rw [Lib.extract_data,List.take_of_length_le (by rw [List.length_drop,← Lib.size_eq]; omega)]] at HF
    have hfl:=fs2_len (s.data.toList.drop a)
    rw [List.length_drop,← Lib.size_eq] at hfl
    have HYL:Hid (if (fs2 (s.data.toList.drop a)).2=0 then yl s a=[⟨(fs2 (s.data.toList.drop a)).1,a,⟨#[]⟩⟩] else yl s a=⟨(fs2 (s.data.toList.drop a)).1,a,s.extract a (a + (fs2 (s.data.toList.drop a)).2)⟩ :: yl s (a + (fs2 (s.data.toList.drop a)).2)):=by
     unfold Hid
     split
     ·exact yl_no hlta hbk ‹_›
     ·exact yl_yes hlta hbk ‹_›
    generalize fs2 (s.data.toList.drop a)=f at HF hfl HYL
    obtain ⟨k,m⟩:=f
    simp only at HF hfl HYL
    have HFH:=Lib.hid HF
    have hplt:pre.length < s.size:=by omega
    have ham0:a + m ≤ s.size:=by omega
    have ham:(a:Int) + (m:Int) ≤ (s.size:Int):=by omega
    have hwm:wrap64 ((a:Int) + (m:Int))=(a:Int) + (m:Int):=IntWalk.wrap64_in _ (by omega)
    obtain ⟨cl,hcl2⟩:∃ cl,cls (s[a]'hlta).toNat=cl:=⟨_,rfl⟩
    rw [hcl2] at hcl e0
    clear HF hcl2 hbk
    go_upto_region 6 with (first
     | (go_at_call 74; refine HFH.out.mono ?_; rintro e w3 ⟨rfl,x3⟩))
    have d3:w3.cell? ⟨bn,0,none⟩=some (.string s):=(Br.out.ext x3).cell 0
    have J3:=HJ.out _ _ _ x3 Jr.out
    have B3:=Lib.hid (Br.out.ext x3)
    have T3:=Lib.hid (Tr.out.ext x3)
    clear d0 e0 x3 HFH Jr Br Tr hlb hlt
    obtain ⟨fn,tmps,assign,body,hy,hR⟩:=HY.out pre ⟨k,a,s.extract a (a + m)⟩ w3 J3 hplt
    dsimp only [encT] at hy
    refine (wpIn_wide (n:=n)).1 ?_
    gi_wp2
    refine hR.mono ?_
    have HPX:=Lib.hid hp.out
    clear hp hR hy HY
    rintro e w4 (⟨rfl,hJ4,hk4⟩ | ⟨rfl,hJx4⟩)
    ·have J4:=Lib.hid hJ4
     have B4:Hid (w4.heap[bn]?=some (Obj.cells #[.string s] 9 (0,0))):=hk4.2 _ _ _ _ (.inr rfl) B3.out
     have T4:Hid (w4.heap[bo]?=some (Obj.cells (tab cls) 112 (0,0))):=hk4.2 _ _ _ _ (.inl rfl) T3.out
     clear hJ4 hk4 J3 B3 T3 d3
     by_cases hm:m=0
     ·have hmb:((m:Int) == 0)=true:=by rw [hm]; rfl
      have hmi:(m:Int)=0:=by rw [hm]; rfl
      have HE:Hid (pre ++ [⟨k,a,s.extract a (a + m)⟩]=yl s 0):=by
       have h9:=HYL.out
       rw [if_pos hm] at h9
       have h8:=HPX.out
       rw [h9] at h8
       unfold Hid
       rw [← h8,hm]
       simp
       rfl
      gi_wp2
      go_wp2_with fail
      refine bodyPost_ret (results_none rfl _ _ _) rfl ?_
      first
       | exact ⟨⟨_,rfl⟩,.inl ⟨_,HE.out,J4.out⟩⟩
       | exact ⟨⟨_,rfl⟩,.inl (HE.out ▸ J4.out)⟩
     ·have hmb:((m:Int) == 0)=false:=beq_eq_false_iff_ne.2 (by omega)
      have HE:Hid ((pre ++ [⟨k,a,s.extract a (a + m)⟩]) ++ yl s (a + m)=yl s 0):=by
       have h9:=HYL.out
       rw [if_neg hm] at h9
       have h8:=HPX.out
       rw [h9] at h8
       unfold Hid
       rw [← h8]
       simp
      have hlen:(pre ++ [(⟨k,a,s.extract a (a + m)⟩:Tok)]).length ≤ a + m:=by rw [List.length_append]; exact Nat.add_le_add hpl (Nat.pos_of_ne_zero hm)
      gi_wp2
      go_wp2_with fail
      case roundEnd=>exact ⟨⟨a + m,_,rfl,ham0,HE,hlen,J4,B4,T4⟩,by rw [iof_plus,iof_nt]; exact Nat.sub_lt_sub_left hlta (Nat.lt_add_of_pos_right (Nat.pos_of_ne_zero hm))⟩
    ·have HPF:Hid ((pre ++ [⟨k,a,s.extract a (a + m)⟩]) <+: yl s 0):=by
      have h9:=HYL.out
      have h8:=HPX.out
      by_cases hm:m=0
      ·rw [if_pos hm] at h9
       rw [h9] at h8
       refine ⟨[],?_⟩
       rw [← h8,hm]
       simp
       rfl
      ·rw [if_neg hm] at h9
       rw [h9] at h8
       exact ⟨_,by rw [← h8]; simp; rfl⟩
     gi_wp2
     go_wp2_with fail
     refine bodyPost_ret (results_none rfl _ _ _) rfl ?_
     exact ⟨⟨_,rfl⟩,.inr ⟨_,HPF.out,hJx4⟩⟩
  ·have hai:¬ (a:Int) < (s.size:Int):=by omega
   have hd:decide ((a:Int) < (s.size:Int))=false:=decide_eq_false hai
   go_wp2_with fail
   go_end0
   exact ⟨⟨_,rfl⟩,.inl (by have h9:=hp.out; rw [yl_end hlta,List.append_nil] at h9; rw [← h9]; exact Jr.out)⟩
end Go.Proofs.YtobfbfbjccmbiaaGreatDoor.c
