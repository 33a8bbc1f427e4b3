/- Maps that the call made itself, told entry by entry: look-up, store. No condition. The levels of operators and the words, as maps. No condition. -/
import Derived.Test.YtmmnhbhnjiajhaaGreatDoorSLib
import Derived.Maps.OwnSet
import Derived.DeepKeys4
import Derived.Test.YtmmnhbhnjiajhaaGreatDoorSTq
import Derived.StringKeys
namespace Go.Proofs.YtmmnhbhnjiajhaaGreatDoor.c
open Go.RowKit
open Go.Maps (Keyed)
set_option linter.unusedVariables false
set_option maxRecDepth 100000
set_option maxHeartbeats 1600000
set_option linter.unusedSimpArgs false

structure MapAt (w:World) (kt:TypeId) (b n:Nat) (V:Value → Option Value):Prop where
 out:∃ es clock,w.heap[b]?=some (.map es clock)∧es.size ≤ n∧(∀ e ∈ es.toList,∃ l,keyOf Tryz.prog kt e.key=some l)∧es.toList.Pairwise (fun x y=>x.key ≠ y.key) ∧
  (∀ e ∈ es.toList,V e.key=some e.val)∧(∀ x,(∀ e ∈ es.toList,e.key ≠ x) → V x=none)∧(∀ e ∈ es.toList,e.born < clock)∧(es.toList.map (·.born)).Nodup
theorem MapAt.lt {w:World} {kt:TypeId} {b n:Nat} {V:Value → Option Value} (h:MapAt w kt b n V):b < w.heap.size:=by
 obtain ⟨es,clock,hb,_⟩:=h
 exact (Array.getElem?_eq_some_iff.1 hb).1
theorem MapAt.keep {w w':World} {kt:TypeId} {b n:Nat} {V:Value → Option Value} (h:MapAt w kt b n V) (e:w'.heap[b]?=w.heap[b]?):MapAt w' kt b n V:=by
 obtain ⟨es,clock,hb,r⟩:=h
 exact ⟨es,clock,e.trans hb,r⟩
theorem MapAt.ext {w w':World} {kt:TypeId} {b n:Nat} {V:Value → Option Value} (h:MapAt w kt b n V) (x:Ext w w'):MapAt w' kt b n V:=h.keep (x.out.block b h.lt)
theorem MapAt.mono {w:World} {kt:TypeId} {b n m:Nat} {V:Value → Option Value} (h:MapAt w kt b n V) (hm:n ≤ m):MapAt w kt b m V:=by
 obtain ⟨es,clock,hb,hs,r⟩:=h
 exact ⟨es,clock,hb,Nat.le_trans hs hm,r⟩
theorem MapAt.made (w:World) (kt:TypeId):MapAt (w.alloc (.map #[] 0)) kt w.heap.size 0 (fun _=>none) :=
 ⟨#[],0,(MapKept.heap_alloc w _).1,Nat.le_refl _,by simp,by simp,by simp,by simp,by simp,by simp⟩
theorem MapAt.setCell {w:World} {kt:TypeId} {b n:Nat} {V:Value → Option Value} (h:MapAt w kt b n V) {a:Addr} (ha:b ≠ a.block) (u:Value):MapAt (w.setCell a u) kt b n V:=h.keep (Below.heap_setCell w a u b ha)
theorem MapAt.grown {w w':World} {row:Option Nat} {kt:TypeId} {b n:Nat} {V:Value → Option Value} (h:MapAt w kt b n V) (hg:w.grownBy w' row) (hne:some b ≠ row):MapAt w' kt b n V:=h.keep (hg.block b h.lt hne)
theorem MapAt.look {w:World} {kt t et:TypeId} {b n:Nat} {V:Value → Option Value} (h:MapAt w kt b n V) (K:Keyed Tryz.prog kt) (ht:Tryz.prog.underlying t=some (.map kt et)) {z:Value} (hz:∀ w,(zeroValue et).run Tryz.prog w=.ok z w)
  {key:Value} {l:Lit} (hkey:keyOf Tryz.prog kt key=some l) (c:Bool) :
  (Instr.lookup t (.map (some b)) key c).run Tryz.prog w=.ok (if c then .tuple #[(V key).getD z,.bool (V key).isSome] else (V key).getD z) w:=by
 obtain ⟨es,clock,hb,hs,hk,hp,hv,hn,hbn⟩:=h
 rcases K.find w hkey es.toList hk with ⟨f1,f2⟩ | ⟨j,e0,f1,f2,f3⟩
 ·rw [hn key f2]
  simp [Instr.lookup,run_underlying ht,MapKept.run_getObj_map hb,K.check w _ hkey,f1,hz,Result.andThen]
 ·have:=hv e0 (List.mem_of_getElem? f2)
  rw [f3] at this
  rw [this]
  simp [Instr.lookup,run_underlying ht,MapKept.run_getObj_map hb,K.check w _ hkey,f1,Result.andThen]
def entsF (l:List (ByteArray × Int)) (i:Nat):List MapEntry:=match l with
 | []=>[]
 | p :: r=>⟨.string p.1,.int .i64 p.2,i⟩ :: entsF r (i + 1)
def ents (l:List (ByteArray × Int)):Array MapEntry:=(entsF l 0).toArray
theorem entsF_snoc (p:ByteArray × Int):∀ (l:List (ByteArray × Int)) (i:Nat),entsF (l ++ [p]) i=entsF l i ++ [⟨.string p.1,.int .i64 p.2,i + l.length⟩]
 | [],i=>rfl
 | q :: r,i=>by rw [List.cons_append,entsF,entsF,entsF_snoc p r (i + 1),List.cons_append,List.length_cons]; congr 4; omega
theorem entsF_key:∀ (l:List (ByteArray × Int)) (i:Nat) (e:MapEntry),e ∈ entsF l i → ∃ p,p ∈ l∧e.key=.string p.1∧e.val=.int .i64 p.2∧i ≤ e.born∧e.born < i + l.length
 | [],i,e,h=>by cases h
 | q :: r,i,e,h=>by
  rw [entsF,List.mem_cons] at h
  rcases h with rfl | h
  ·exact ⟨q,List.mem_cons_self ..,rfl,rfl,Nat.le_refl _,by simp⟩
  ·obtain ⟨p,h1,h2,h3,h4,h5⟩:=entsF_key r (i + 1) e h
   exact ⟨p,List.mem_cons_of_mem _ h1,h2,h3,by omega,by simp; omega⟩
theorem keyed_str:Keyed Tryz.prog 9 := Maps.string_keyed Tryz.underlying9
theorem key_str {s:ByteArray} (h:s.size ≤ 4000):keyOf Tryz.prog 9 (.string s)=some (.string s.data.toList):=WideMaps.keyOf_string_mk Tryz.underlying9 (by unfold maxLen; omega)
theorem setBlock_alloc (w:World) (o o':Obj):ChangeMaps.setBlock (w.alloc o) w.heap.size o'=w.alloc o':=by
 have h:(w.heap.push o).setIfInBounds w.heap.size o'=w.heap.push o':=by
  apply Array.ext'
  simp [List.set_append]
 unfold ChangeMaps.setBlock World.alloc
 simp only [h]
section
variable {ops:Array Oper} {rest:List Oper} {o:Oper} {a:Act} {Q:Exit → Act → World → Prop} {w:World}
theorem run_ins {t:TypeId} (ht:Tryz.prog.underlying t=some (.map 9 3)) (l:List (ByteArray × Int)) (s:ByteArray) (v:Int) (hs:s.size ≤ 4000) (hl:∀ p,p ∈ l → p.1.size ≤ 4000∧p.1 ≠ s) :
  (Instr.mapUpdate t (.map (some w.heap.size)) (.string s) (.int .i64 v)).run Tryz.prog (w.alloc (.map (ents l) l.length))=.ok () (w.alloc (.map (ents (l ++ [(s,v)])) (l ++ [(s,v)]).length)):=by
 have hb:(w.alloc (.map (ents l) l.length)).heap[w.heap.size]?=some (.map (ents l) l.length):=(MapKept.heap_alloc w _).1
 have he:(ents l).toList=entsF l 0:=by unfold ents; simp
 have hk:∀ e ∈ (ents l).toList,∃ k,keyOf Tryz.prog 9 e.key=some k:=fun e h=>by
  rw [he] at h
  obtain ⟨p,h1,h2,_⟩:=entsF_key l 0 e h
  exact ⟨_,by rw [h2]; exact key_str (hl p h1).1⟩
 rcases keyed_str.find (w.alloc (.map (ents l) l.length)) (key_str hs) (ents l).toList hk with ⟨f1,f2⟩ | ⟨j,e0,f1,f2,f3⟩
 ·have hp:(ents l).push ⟨.string s,.int .i64 v,l.length⟩=ents (l ++ [(s,v)]):=by
   unfold ents
   rw [entsF_snoc]
   simp
  simp [Instr.mapUpdate,run_underlying ht,MapKept.run_getObj_map hb,keyed_str.check _ false (key_str hs),f1,MapKept.run_setObj_map _ hb,Result.andThen]
  have:=setBlock_alloc w (.map (ents l) l.length) (.map ((ents l).push ⟨.string s,.int .i64 v,l.length⟩) (l.length + 1))
  rw [hp] at this
  unfold ChangeMaps.setBlock at this
  rw [hp]
  exact this
 ·have h:=List.mem_of_getElem? f2
  rw [he] at h
  obtain ⟨p,h1,h2,_⟩:=entsF_key l 0 e0 h
  rw [h2] at f3
  exact absurd (Value.string.inj f3) (hl p h1).2
theorem wpList_ins (hg:o.guard=none) {t:TypeId} (ht:Tryz.prog.underlying t=some (.map 9 3)) (m x y:Operand) (hop:o.op=.insert t m x y) (l:List (ByteArray × Int)) (s:ByteArray) (v:Int) {b:Nat} (hm:a.eval m=.map (some b)) (hb:b=w.heap.size) (hx:a.eval x=.string s) (hv:a.eval y=.int .i64 v)
  (hl:(decide (s.size ≤ 4000) && l.all fun p=>decide (p.1.size ≤ 4000) && decide (p.1 ≠ s))=true)
  (h:wpList Tryz.prog ops Q rest (a.put o.dst undef) (w.alloc (.map (ents (l ++ [(s,v)])) (l ++ [(s,v)]).length))):wpList Tryz.prog ops Q (o :: rest) a (w.alloc (.map (ents l) l.length)):=by
 subst hb
 rw [Bool.and_eq_true,decide_eq_true_eq,List.all_eq_true] at hl
 refine wpList_plain hg fun K hK=>?_
 have hr:=run_ins (w:=w) ht l s v hl.1 fun p hp=>by simpa using hl.2 p hp
 unfold Oper.wp
 simp [execOp,hop,hm,hx,hv,hr,Result.andThen]
 exact hK _ _ (by simpa using h)
theorem wpList_ins0 (hg:o.guard=none) {t:TypeId} (ht:Tryz.prog.underlying t=some (.map 9 3)) (m x y:Operand) (hop:o.op=.insert t m x y) (s:ByteArray) (v:Int) {b:Nat} (hm:a.eval m=.map (some b)) (hb:b=w.heap.size) (hx:a.eval x=.string s) (hv:a.eval y=.int .i64 v)
  (hl:decide (s.size ≤ 4000)=true) (h:wpList Tryz.prog ops Q rest (a.put o.dst undef) (w.alloc (.map (ents [(s,v)]) [(s,v)].length))):wpList Tryz.prog ops Q (o :: rest) a (w.alloc (.map #[] 0)) :=
 wpList_ins (l:=[]) hg ht m x y hop s v hm hb hx hv (by simpa using hl) h
end
def strV (l:List (ByteArray × Int)):Value → Option Value
 | .string s=>(l.find? fun p=>decide (p.1=s)).map fun p=>.int .i64 p.2
 | _=>none
theorem strV_mem:∀ (l:List (ByteArray × Int)),(l.map Prod.fst).Nodup → ∀ p,p ∈ l → strV l (.string p.1)=some (.int .i64 p.2)
 | [],_,p,h=>by cases h
 | q :: r,hn,p,h=>by
  rw [List.map_cons,List.nodup_cons] at hn
  rw [List.mem_cons] at h
  show ((q :: r).find? fun x=>decide (x.1=p.1)).map _=_
  by_cases e:q.1=p.1
  ·rcases h with rfl | h
   ·rw [List.find?_cons_of_pos (by simp)]; rfl
   ·exact absurd (List.mem_map_of_mem (f:=Prod.fst) h) (e ▸ hn.1)
  ·rcases h with rfl | h
   ·exact absurd rfl e
   ·rw [List.find?_cons_of_neg (by simpa using e)]
    exact strV_mem r hn.2 p h
theorem mapAt_ents {w:World} {b:Nat} {l:List (ByteArray × Int)} (hb:w.heap[b]?=some (.map (ents l) l.length)) (hn:(l.map Prod.fst).Nodup) (hl:∀ p,p ∈ l → p.1.size ≤ 4000):MapAt w 9 b l.length (strV l):=by
 have he:(ents l).toList=entsF l 0:=by unfold ents; simp
 have hsz:∀ (l:List (ByteArray × Int)) (i:Nat),(entsF l i).length=l.length:=fun l=>by
  induction l with
  | nil=>intro i; rfl
  | cons p r ih=>intro i; rw [entsF,List.length_cons,List.length_cons,ih]
 have hpw:∀ (l:List (ByteArray × Int)) (i:Nat),(l.map Prod.fst).Nodup → (entsF l i).Pairwise (fun x y=>x.key ≠ y.key)∧((entsF l i).map (·.born)).Nodup:=fun l=>by
  induction l with
  | nil=>intro i _; exact ⟨List.Pairwise.nil,List.nodup_nil⟩
  | cons p r ih =>
   intro i h
   rw [List.map_cons,List.nodup_cons] at h
   obtain ⟨h1,h2⟩:=ih (i + 1) h.2
   rw [entsF]
   refine ⟨List.pairwise_cons.2 ⟨fun e he=>?_,h1⟩,List.nodup_cons.2 ⟨fun he=>?_,h2⟩⟩
   ·obtain ⟨q,h3,h4,_⟩:=entsF_key r (i + 1) e he
    rw [h4]
    intro e2
    exact h.1 (Value.string.inj e2 ▸ List.mem_map_of_mem (f:=Prod.fst) h3)
   ·obtain ⟨e,h3,h4⟩:=List.mem_map.1 he
    obtain ⟨q,_,_,_,h5,_⟩:=entsF_key r (i + 1) e h3
    have h4:e.born=i:=h4
    omega
 refine ⟨ents l,l.length,hb,by unfold ents; simp [hsz],?_,?_,?_,?_,?_,?_⟩ <;> rw [he]
 ·intro e h
  obtain ⟨p,h1,h2,_⟩:=entsF_key l 0 e h
  exact ⟨_,by rw [h2]; exact key_str (hl p h1)⟩
 ·exact (hpw l 0 hn).1
 ·intro e h
  obtain ⟨p,h1,h2,h3,_⟩:=entsF_key l 0 e h
  rw [h2,h3]
  exact strV_mem l hn p h1
 ·intro x hx
  cases x <;> try rfl
  rename_i s
  show ((l.find? fun p=>decide (p.1=s)).map _)=none
  rw [List.find?_eq_none.2 fun p hp=>?_]
  ·rfl
  ·have:∃ e,e ∈ entsF l 0∧e.key=.string p.1:=by
    clear hx he hsz hpw hb hn hl
    have:∀ (l:List (ByteArray × Int)) (i:Nat),p ∈ l → ∃ e,e ∈ entsF l i∧e.key=.string p.1:=fun l=>by
     induction l with
     | nil=>intro i h; cases h
     | cons q r ih =>
      intro i h
      rw [List.mem_cons] at h
      rcases h with rfl | h
      ·exact ⟨_,by rw [entsF]; exact List.mem_cons_self ..,rfl⟩
      ·obtain ⟨e,h1,h2⟩:=ih (i + 1) h
       exact ⟨e,by rw [entsF]; exact List.mem_cons_of_mem _ h1,h2⟩
    exact this l 0 hp
   obtain ⟨e,h1,h2⟩:=this
   have h3:=hx e h1
   rw [h2] at h3
   simpa using fun e=>h3 (by rw [e])
 ·intro e h
  obtain ⟨p,_,_,_,_,h5⟩:=entsF_key l 0 e h
  omega
 ·exact (hpw l 0 hn).2
theorem words_any (w:World):Calls Tryz.prog 222 #[] w fun e w'=>e=.returned (.map (some w.heap.size))∧MapAt w' 9 w.heap.size 5 (strV [(⟨#[100,101,102,101,114]⟩,12),(⟨#[101,114,114,100,101,102,101,114]⟩,13),(⟨#[98,114,101,97,107]⟩,14),(⟨#[99,111,110,116,105,110,117,101]⟩,15),(⟨#[117,110,114,101,97,99,104,97,98,108,101]⟩,17)])∧Ext w w':=by
 have hmm:=@run_makeMap Tryz.prog
 go_enter Tryz.func222,Tryz.ntmps222
 go_wp2_with (first
  | ((with_reducible show wpList _ _ _ (Oper.mk none (.insert _ _ _ _) _ _ _ _ :: _) _ (World.alloc _ (.map #[] 0))); refine wpList_ins0 rfl Tryz.underlying254 _ _ _ rfl _ _ rfl (by simp) rfl rfl (by decide) ?_)
  | ((with_reducible show wpList _ _ _ (Oper.mk none (.insert _ _ _ _) _ _ _ _ :: _) _ _); refine wpList_ins rfl Tryz.underlying254 _ _ _ rfl _ _ _ rfl (by simp) rfl rfl (by decide) ?_))
 go_ret
 exact ⟨rfl,mapAt_ents (MapKept.heap_alloc w _).1 (by decide) (fun p hp=>by simp only [List.mem_cons,List.not_mem_nil,or_false] at hp; rcases hp with rfl | rfl | rfl | rfl | rfl <;> decide),exA⟩
def LvAt (w:World) (A:Option Addr) (k:Nat):Prop:=k < 7 → ∃ b o,A=some ⟨b,o,none⟩∧b < w.heap.size∧∀ i,k + i < 7 → ∃ g,w.cell? ⟨b,o + i,none⟩=some (.map (some g))∧MapAt w 9 g 6 (strV (opsT.getD (k + i) []))
theorem LvAt.le {w w':World} {A:Option Addr} {k:Nat} (h:LvAt w A k) (hb:∀ b,b < w.heap.size → (∃ o g,w.cell? ⟨b,o,none⟩=some (.map (some g))) ∨ (∃ es cl,w.heap[b]?=some (.map es cl)) → w'.heap[b]?=w.heap[b]?) (hz:w.heap.size ≤ w'.heap.size):LvAt w' A k:=fun hk=>by
 obtain ⟨b,o,e,hlt,hc⟩:=h hk
 have h0:=hc 0 (by omega)
 refine ⟨b,o,e,by omega,fun i hi=>?_⟩
 obtain ⟨g,h1,h2⟩:=hc i hi
 exact ⟨g,(World.cell?_of_block (hb b hlt (.inl ⟨_,_,h1⟩))).trans h1,h2.keep (hb g h2.lt (.inr (by obtain ⟨es,cl,h3,_⟩:=h2; exact ⟨es,cl,h3⟩)))⟩
theorem LvAt.ext {w w':World} {A:Option Addr} {k:Nat} (h:LvAt w A k) (x:Ext w w'):LvAt w' A k:=h.le (fun b hb _=>x.out.block b hb) x.size
theorem lv_one {w W:World} {g:Nat} (k:Nat) (hk:((opsT.getD k []).map Prod.fst).Nodup∧(∀ p,p ∈ opsT.getD k [] → p.1.size ≤ 4000)∧(opsT.getD k []).length ≤ 6) (x:Ext (w.alloc (.map (ents (opsT.getD k [])) (opsT.getD k []).length)) W) (hg:g=w.heap.size):MapAt W 9 g 6 (strV (opsT.getD k [])):=by
 subst hg
 exact ((mapAt_ents (MapKept.heap_alloc w _).1 hk.1 hk.2.1).ext x).mono hk.2.2
theorem levels_any (w:World):Calls Tryz.prog 172 #[] w fun e w'=>∃ A,e=.returned (.slice A 7 7)∧LvAt w' A 0∧Ext w w':=by
 have hmm:=@run_makeMap Tryz.prog
 go_enter Tryz.func172,Tryz.ntmps172
 go_wp2_with (first
  | ((with_reducible show wpList _ _ _ (Oper.mk none (.insert _ _ _ _) _ _ _ _ :: _) _ (World.alloc _ (.map #[] 0))); refine wpList_ins0 rfl Tryz.underlying255 _ _ _ rfl _ _ rfl (by simp) rfl rfl (by decide) ?_)
  | ((with_reducible show wpList _ _ _ (Oper.mk none (.insert _ _ _ _) _ _ _ _ :: _) _ _); refine wpList_ins rfl Tryz.underlying255 _ _ _ rfl _ _ _ rfl (by simp) rfl rfl (by decide) ?_))
 go_ret
 refine ⟨_,rfl,fun _=>⟨_,_,rfl,by simp,fun i hi=>?_⟩,exA⟩
 have hb:∀ (W:World) (b:Nat) (x:Array Value),b=W.heap.size → (W.alloc (.cells x 255)).cell? ⟨b,0 + i,none⟩=x[i]?:=fun W b x hb=>by rw [hb,Nat.zero_add,(Blk.new W _ x).cell]
 match i,hi with
 | 0,_=>exact ⟨_,(hb _ _ _ (by simp)).trans rfl,lv_one 0 (by decide) ((((((((Ext.refl _).alloc _).alloc _).alloc _).alloc _).alloc _).alloc _).alloc _) (by rfl)⟩
 | 1,_=>exact ⟨_,(hb _ _ _ (by simp)).trans rfl,lv_one 1 (by decide) (((((((Ext.refl _).alloc _).alloc _).alloc _).alloc _).alloc _).alloc _) (by simp)⟩
 | 2,_=>exact ⟨_,(hb _ _ _ (by simp)).trans rfl,lv_one 2 (by decide) ((((((Ext.refl _).alloc _).alloc _).alloc _).alloc _).alloc _) (by simp)⟩
 | 3,_=>exact ⟨_,(hb _ _ _ (by simp)).trans rfl,lv_one 3 (by decide) (((((Ext.refl _).alloc _).alloc _).alloc _).alloc _) (by simp)⟩
 | 4,_=>exact ⟨_,(hb _ _ _ (by simp)).trans rfl,lv_one 4 (by decide) ((((Ext.refl _).alloc _).alloc _).alloc _) (by simp)⟩
 | 5,_=>exact ⟨_,(hb _ _ _ (by simp)).trans rfl,lv_one 5 (by decide) (((Ext.refl _).alloc _).alloc _) (by simp)⟩
 | 6,_=>exact ⟨_,(hb _ _ _ (by simp)).trans rfl,lv_one 6 (by decide) ((Ext.refl _).alloc _) (by simp)⟩
end Go.Proofs.YtmmnhbhnjiajhaaGreatDoor.c
