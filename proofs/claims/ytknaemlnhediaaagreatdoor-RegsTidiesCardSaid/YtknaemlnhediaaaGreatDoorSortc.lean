/- sort.Ints and slices.Compact at numbers that the call itself has laid. No condition. A row of cells told by its places; sorted numbers that are compacted, plainly. No condition. Which registers an instruction reads, and which one it writes: plainly; contracts of the program's uses, writes, Uses, Writes. The table strings.asciiSpace holds what its text lays; lengths are bounded. -/
import Derived.Test.YtknaemlnhediaaaGreatDoorLib
import Derived.Test.YtknaemlnhediaaaGreatDoorShelfB
import Derived.Sort.OwnSortedInts
import Derived.Lib.RowBridge
import Derived.Test.YtknaemlnhediaaaGreatDoorRinst
import Derived.OwnWalk
namespace Go.Proofs.YtknaemlnhediaaaGreatDoor.c
open Go.RowKit
set_option linter.unusedVariables false
set_option maxRecDepth 100000
set_option maxHeartbeats 1600000
set_option linter.unusedSimpArgs false
def sortI (zs:List Int):List Int:=zs.mergeSort fun x y=>decide (x ≤ y)
theorem sortI_len (zs:List Int):(sortI zs).length=zs.length:=List.length_mergeSort _
theorem sort_own {w:World} {base:Nat} {v:Value} {n:Nat} {zs:List Int} (h:w.ownsRow base 3 1 v n (zs.map (Value.int .i64))) (hn:n=zs.length) (hs:n ≤ 1000000000) :
  Calls Tryz.prog 105 #[v] w fun e w'=>e=.returned (.tuple #[])∧w.grownBy w' v.ownBlock∧w'.ownsRow base 3 1 v n ((sortI zs).map (Value.int .i64)):=by
 subst hn
 have hmax:zs.length ≤ maxLen:=by unfold maxLen; omega
 rcases h.2 with ⟨rfl,h0⟩ | ⟨g,cap,cur,rfl,hb,hg,hc,hm,hsz,ht⟩
 ·have hz:zs=[]:=List.length_eq_zero_iff.1 h0
  subst hz
  refine (Tryz.sort_Ints_none none 0 w).mono ?_
  rintro e w' ⟨rfl,rfl⟩
  exact ⟨rfl,⟨rfl,rfl,rfl,Nat.le_refl _,fun k _ _=>rfl⟩,by simpa [sortI] using h⟩
 ·have hH:=holds_of_blockI (ss:=zs) hg (by rw [← ht,Nat.mul_one])
  refine (Tryz.sort_Ints g 0 cap zs w hH (Array.getElem?_eq_some_iff.1 hg).1 (by omega)).mono ?_
  rintro e w' ⟨rfl,k,os,rfl⟩
  exact ⟨rfl,grownBy_sortedI _,ownsRow_sortedI (sortI_len zs) hb hg hc hm hsz⟩
theorem compact_own {w:World} {base:Nat} {v:Value} {n:Nat} {zs:List Int} (h:w.ownsRow base 3 1 v n (zs.map (Value.int .i64))) (hn:n=zs.length) (hs:n ≤ 1000000000) :
  Calls Tryz.prog 106 #[v] w fun e w'=>∃ v',e=.returned v'∧v'.ownBlock=v.ownBlock∧w.grownBy w' v.ownBlock∧w'.ownsRow base 3 1 v' (Lib.compact zs).length ((Lib.compact zs).map (Value.int .i64)):=by
 subst hn
 rcases h.2 with ⟨rfl,h0⟩ | ⟨g,cap,cur,rfl,hb,hg,hc,hm,hsz,ht⟩
 ·have hz:zs=[]:=List.length_eq_zero_iff.1 h0
  subst hz
  refine (Tryz.slices_Compact_int_empty none 0 w).mono ?_
  rintro e w' ⟨rfl,rfl⟩
  exact ⟨_,rfl,rfl,⟨rfl,rfl,rfl,Nat.le_refl _,fun k _ _=>rfl⟩,World.ownsRow_nil _ _ _ _⟩
 ·have hH:=holds_of_blockI (ss:=zs) hg (by rw [← ht,Nat.mul_one])
  have hle:=Lib.compact_length_le zs
  refine (Tryz.slices_Compact_int g 0 cap zs w hH (by omega) hc).mono ?_
  rintro e w' ⟨rfl,q,rfl⟩
  obtain ⟨ts,hts⟩:∃ ts,ts=Lib.compact zs ++ List.replicate (zs.length - (Lib.compact zs).length) 0:=⟨_,rfl⟩
  rw [← hts]
  have hl:ts.length=zs.length:=by rw [hts]; simp; omega
  have e0:Sort.putRow (Value.int .i64) (Sort.ahead w q) g 0 ts.toArray=Sort.grow (Sort.putRow (Value.int .i64) (Sort.ahead w q) g 0 ts.toArray) #[]:=(Sort.grow_empty _).symm
  rw [e0]
  have ow:=ownsRow_sortedI (w:=w) (base:=base) (n:=q) (os:=#[]) hl hb hg hc hm hsz
  refine ⟨_,rfl,rfl,grownBy_sortedI _,?_⟩
  rcases ow.2 with ⟨h9,_⟩ | ⟨g2,cap2,cur2,h9,hb2,hg2,hc2,hm2,hsz2,ht2⟩
  ·cases h9
  ·cases h9
   refine ⟨by simp,.inr ⟨g,cap,cur2,rfl,hb,hg2,by omega,hm,hsz2,?_⟩⟩
   have h3:=congrArg (List.take (Lib.compact zs).length) ht2
   rw [List.take_take,Nat.mul_one,Nat.min_eq_left (by omega),hts,List.map_append,List.take_left' (by simp)] at h3
   rw [Nat.mul_one]
   exact h3
theorem own_lit {w:World} {base g:Nat} {zs:List Int} (h:Blk w g 3 (zs.map (Value.int .i64)).toArray) (hb:base ≤ g) (hs:zs.length ≤ 1000000000):w.ownsRow base 3 1 (.slice (some ⟨g,0,none⟩) zs.length zs.length) zs.length (zs.map (Value.int .i64)) :=
 ⟨by simp,.inr ⟨g,zs.length,_,rfl,hb,h,Nat.le_refl _,by unfold maxLen; omega,by simp,by rw [List.take_of_length_le (by simp)]⟩⟩
def RowAt (w:World) (g:Nat) (t:TypeId) (n:Nat) (F:Nat → Value):Prop:=∃ cs:Array Value,Blk w g t cs∧cs.size=n∧∀ j,j < n → cs[j]?=some (F j)
section
variable {w w':World} {g n:Nat} {t:TypeId} {F:Nat → Value}
theorem RowAt.lt (h:RowAt w g t n F):g < w.heap.size:=by
 obtain ⟨cs,hb,_⟩:=h
 exact hb.lt
theorem RowAt.cell (h:RowAt w g t n F) {j:Nat} (hj:j < n):w.cell? ⟨g,j,none⟩=some (F j):=by
 obtain ⟨cs,hb,_,hc⟩:=h
 rw [hb.cell,hc j hj]
theorem RowAt.frozen (h:RowAt w g t n F) (j:Nat):w.frozen? ⟨g,j,none⟩=false:=by
 obtain ⟨cs,hb,_⟩:=h
 exact hb.frozen j
theorem RowAt.ext (h:RowAt w g t n F) (x:Ext w w'):RowAt w' g t n F:=by
 obtain ⟨cs,hb,r⟩:=h
 exact ⟨cs,hb.ext x,r⟩
theorem RowAt.grown {row:Option Nat} (h:RowAt w g t n F) (x:w.grownBy w' row) (hne:some g ≠ row):RowAt w' g t n F:=by
 obtain ⟨cs,hb,r⟩:=h
 exact ⟨cs,(x.block g hb.lt hne).trans hb,r⟩
theorem RowAt.far (h:RowAt w g t n F) {p:Addr} (hp:g ≠ p.block) (u:Value):RowAt (w.setCell p u) g t n F:=by
 obtain ⟨cs,hb,r⟩:=h
 exact ⟨cs,hb.far hp u,r⟩
theorem RowAt.set_ (h:RowAt w g t n F) {F':Nat → Value} {i:Nat} {u:Value} (hF:∀ j,j < n → F' j=if j=i then u else F j):RowAt (w.setCell ⟨g,i,none⟩ u) g t n F':=by
 obtain ⟨cs,hb,hs,hc⟩:=h
 refine ⟨_,hb.set_ i u,by simpa using hs,fun j hj=>?_⟩
 rw [hF j hj,Array.getElem?_setIfInBounds]
 by_cases e:i=j
 ·subst e
  simp [hs,hj]
 ·rw [if_neg e,if_neg (fun e2=>e e2.symm)]
  exact hc j hj
theorem RowAt.same (h:RowAt w g t n F) {F':Nat → Value} (hF:∀ j,j < n → F' j=F j):RowAt w g t n F':=by
 obtain ⟨cs,hb,hs,hc⟩:=h
 exact ⟨cs,hb,hs,fun j hj=>by rw [hF j hj]; exact hc j hj⟩
theorem RowAt.made (w:World) (t:TypeId) (z:Value) (n:Nat):RowAt (w.alloc (.cells (madeCells #[z] n) t)) w.heap.size t n (fun _=>z):=by
 refine ⟨_,Blk.new _ _ _,size_madeCells _ _,fun j hj=>?_⟩
 simp [madeCells,hj,Nat.mod_one]
end
def readsB (x:Rg) (r:Int):Bool:=((partsR x.op).2.1 == 1 && x.a == r) || ((partsR x.op).2.2 == 1 && x.b == r)
def usesL (x:Rg):List Int:=([0,1,2,3,4,5]:List Int).filter (readsB x)
def usesR (x:Rg):List Int:=(if (partsR x.op).2.1=1 then [x.a] else []) ++ (if (partsR x.op).2.2=1 then [x.b] else [])
theorem sort_two (a b:Int):sortI [a,b]=if a ≤ b then [a,b] else [b,a]:=by
 unfold sortI
 simp [List.mergeSort,List.MergeSort.Internal.splitInTwo,List.merge]
theorem sort_one (a:Int):sortI [a]=[a]:=by simp [sortI]
theorem sort_none:sortI []=[]:=by simp [sortI]
theorem fin_uses:∀ a b:Fin 6,(Lib.compact (if (a.val:Int) ≤ b.val then [(a.val:Int),b.val] else [(b.val:Int),a.val])=([0,1,2,3,4,5]:List Int).filter (fun r=>(a.val:Int) == r || (b.val:Int) == r))∧Lib.compact [(a.val:Int)]=([0,1,2,3,4,5]:List Int).filter (fun r=>(a.val:Int) == r):=by decide +kernel
theorem uses_eq {x:Rg} {regs code:Int} (hr:regs ≤ 6) (ha:isPartB (partsR x.op).2.1 x.a regs code=true) (hb:isPartB (partsR x.op).2.2 x.b regs code=true):Lib.compact (sortI (usesR x))=usesL x:=by
 have one:∀ (k n:Int),k=1 → isPartB k n regs code=true → ∃ i:Fin 6,n=(i.val:Int):=by
  intro k n hk h
  subst hk
  have:=isPartB_reg h
  exact ⟨⟨n.toNat,by omega⟩,by simp; omega⟩
 unfold usesR usesL readsB
 by_cases h1:(partsR x.op).2.1=1
 ·obtain ⟨i,hi⟩:=one _ _ h1 ha
  by_cases h2:(partsR x.op).2.2=1
  ·obtain ⟨j,hj⟩:=one _ _ h2 hb
   rw [if_pos h1,if_pos h2,h1,h2,hi,hj]
   show Lib.compact (sortI [_,_])=_
   rw [sort_two,(fin_uses i j).1]
   rfl
  ·rw [if_pos h1,if_neg h2,hi,List.append_nil,sort_one,(fin_uses i 0).2]
   have e:((partsR x.op).2.2 == 1)=false:=by simpa using h2
   rw [h1,e]
   simp
 ·have e:((partsR x.op).2.1 == 1)=false:=by simpa using h1
  by_cases h2:(partsR x.op).2.2=1
  ·obtain ⟨j,hj⟩:=one _ _ h2 hb
   rw [if_neg h1,if_pos h2,hj,List.nil_append,sort_one,(fin_uses j 0).2,h2,e]
   simp
  ·have e2:((partsR x.op).2.2 == 1)=false:=by simpa using h2
   rw [if_neg h1,if_neg h2,e,e2]
   rw [List.append_nil,sort_none]
   simp [Lib.compact,Lib.compactUpTo]
def UsesZ (zs:List Int) (w:World) (e:Ending) (w':World):Prop:=∃ A c,e=.returned (.slice A (Lib.compact (sortI zs)).length c)∧Ext w w'∧NumsAt w' A (Lib.compact (sortI zs))
theorem own_nums {w:World} {base:Nat} {v:Value} {zs:List Int} (h:w.ownsRow base 3 1 v zs.length (zs.map (Value.int .i64))):∃ A c,v=.slice A zs.length c∧NumsAt w A zs:=by
 obtain ⟨A,c,hv,ha⟩:=own_slice h
 refine ⟨A,c,hv,fun hn=>?_⟩
 obtain ⟨b,off,hA,hb,hc⟩:=ha hn
 refine ⟨b,off,hA,hb,fun i j hi hj=>?_⟩
 rw [hc i j hi hj]
 obtain rfl:j=0:=by omega
 simp [List.getD,hi]
theorem Ext.own {w0 w w':World} {base:Nat} {e:TypeId} {size:Nat} {v:Value} {n:Nat} {xs:List Value} (x:Ext w0 w) (h:w.ownsRow base e size v n xs) (hb:w0.heap.size ≤ base) (g:w.grownBy w' v.ownBlock):Ext w0 w' :=
 x.grown g fun k hk=>Nat.le_trans hb (own_row h k hk)
theorem UsesZ.mk_ {zs:List Int} {w0 w1 w2 w3:World} {v v':Value} {n:Nat} (hn:n=zs.length) (x1:Ext w0 w1) (h1:w1.ownsRow w0.heap.size 3 1 v n (zs.map (Value.int .i64))) (g2:w1.grownBy w2 v.ownBlock)
  (h2:w2.ownsRow w0.heap.size 3 1 v n ((sortI zs).map (Value.int .i64))) (hv:v'.ownBlock=v.ownBlock) (g3:w2.grownBy w3 v.ownBlock) (h3:w3.ownsRow w0.heap.size 3 1 v' (Lib.compact (sortI zs)).length ((Lib.compact (sortI zs)).map (Value.int .i64))):UsesZ zs w0 (.returned v') w3:=by
 obtain ⟨A,c,rfl,ha⟩:=own_nums h3
 exact ⟨A,c,rfl,((x1.own h1 (Nat.le_refl _) g2).own h2 (Nat.le_refl _) g3),ha⟩
theorem guses_none (op d a b:Int) (ty:Ty) (nm:ByteArray) (A:Option Addr) (n cap:Nat) (w:World) (hop:op=0 ∨ op=1 ∨ op=3 ∨ op=12 ∨ op=14 ∨ op=16 ∨ op=17) :
  Calls Tryz.prog 99 #[.agg #[.int .i64 op,.int .i64 d,.int .i64 a,.int .i64 b,.int .i64 ty.base,.int .i64 ty.bits,.string ty.name,.bool ty.opt,.bool ty.err,.string nm,.slice A n cap]] w fun e w'=>UsesZ [] w e w':=by
 have HO:Hid ((w.alloc (.cells #[.int .i64 op,.int .i64 d,.int .i64 a,.int .i64 b,.int .i64 ty.base,.int .i64 ty.bits,.string ty.name,.bool ty.opt,.bool ty.err,.string nm,.slice A n cap] 67)).ownsRow w.heap.size 3 1 (.slice none 0 0) 0 ([].map (Value.int .i64))):=World.ownsRow_nil _ _ _ _
 rcases hop with rfl | rfl | rfl | rfl | rfl | rfl | rfl
 all_goals
  go_enter Tryz.func99,Tryz.ntmps99
  go_wp2_with (first
   | (go_at_call 105; refine (sort_own HO.out rfl (by decide)).mono ?_; rintro r w1 ⟨rfl,g1,o1⟩; have G1:=Lib.hid g1; have O1:=Lib.hid o1; clear g1 o1)
   | (go_at_call 106; refine (compact_own O1.out (by rw [sortI_len]; rfl) (by decide)).mono ?_; rintro r w2 ⟨v2,rfl,hv2,g2,o2⟩; have G2:=Lib.hid g2; have O2:=Lib.hid o2; clear g2 o2))
  go_ret
  exact UsesZ.mk_ rfl exA HO.out G1.out O1.out hv2 G2.out O2.out
theorem guses_b (op d a b:Int) (ty:Ty) (nm:ByteArray) (A:Option Addr) (n cap:Nat) (w:World) (hop:op=4) :
  Calls Tryz.prog 99 #[.agg #[.int .i64 op,.int .i64 d,.int .i64 a,.int .i64 b,.int .i64 ty.base,.int .i64 ty.bits,.string ty.name,.bool ty.opt,.bool ty.err,.string nm,.slice A n cap]] w fun e w'=>UsesZ [b] w e w':=by
 have HO:Hid (((w.alloc (.cells #[.int .i64 op,.int .i64 d,.int .i64 a,.int .i64 b,.int .i64 ty.base,.int .i64 ty.bits,.string ty.name,.bool ty.opt,.bool ty.err,.string nm,.slice A n cap] 67)).alloc (.cells #[.int .i64 b] 3)).ownsRow w.heap.size 3 1 (.slice (some ⟨w.heap.size + 1,0,none⟩) 1 1) 1 ([b].map (Value.int .i64))):=own_lit (zs:=[b]) (blk2 w _ 3 #[.int .i64 b]) (by omega) (by simp)
 subst hop
 all_goals
  go_enter Tryz.func99,Tryz.ntmps99
  go_wp2_with (first
   | (go_at_call 105; refine (sort_own HO.out rfl (by decide)).mono ?_; rintro r w1 ⟨rfl,g1,o1⟩; have G1:=Lib.hid g1; have O1:=Lib.hid o1; clear g1 o1)
   | (go_at_call 106; refine (compact_own O1.out (by rw [sortI_len]; rfl) (by decide)).mono ?_; rintro r w2 ⟨v2,rfl,hv2,g2,o2⟩; have G2:=Lib.hid g2; have O2:=Lib.hid o2; clear g2 o2))
  go_ret
  exact UsesZ.mk_ rfl exA HO.out G1.out O1.out hv2 G2.out O2.out
theorem guses_a (op d a b:Int) (ty:Ty) (nm:ByteArray) (A:Option Addr) (n cap:Nat) (w:World) (hop:op=2 ∨ op=5 ∨ op=6 ∨ op=7 ∨ op=8 ∨ op=9 ∨ op=10 ∨ op=11 ∨ op=13 ∨ op=15) :
  Calls Tryz.prog 99 #[.agg #[.int .i64 op,.int .i64 d,.int .i64 a,.int .i64 b,.int .i64 ty.base,.int .i64 ty.bits,.string ty.name,.bool ty.opt,.bool ty.err,.string nm,.slice A n cap]] w fun e w'=>UsesZ [a] w e w':=by
 have HO:Hid (((w.alloc (.cells #[.int .i64 op,.int .i64 d,.int .i64 a,.int .i64 b,.int .i64 ty.base,.int .i64 ty.bits,.string ty.name,.bool ty.opt,.bool ty.err,.string nm,.slice A n cap] 67)).alloc (.cells #[.int .i64 a] 3)).ownsRow w.heap.size 3 1 (.slice (some ⟨w.heap.size + 1,0,none⟩) 1 1) 1 ([a].map (Value.int .i64))):=own_lit (zs:=[a]) (blk2 w _ 3 #[.int .i64 a]) (by omega) (by simp)
 rcases hop with rfl | rfl | rfl | rfl | rfl | rfl | rfl | rfl | rfl | rfl
 all_goals
  go_enter Tryz.func99,Tryz.ntmps99
  go_wp2_with (first
   | (go_at_call 105; refine (sort_own HO.out rfl (by decide)).mono ?_; rintro r w1 ⟨rfl,g1,o1⟩; have G1:=Lib.hid g1; have O1:=Lib.hid o1; clear g1 o1)
   | (go_at_call 106; refine (compact_own O1.out (by rw [sortI_len]; rfl) (by decide)).mono ?_; rintro r w2 ⟨v2,rfl,hv2,g2,o2⟩; have G2:=Lib.hid g2; have O2:=Lib.hid o2; clear g2 o2))
  go_ret
  exact UsesZ.mk_ rfl exA HO.out G1.out O1.out hv2 G2.out O2.out
theorem guses_ab (op d a b:Int) (ty:Ty) (nm:ByteArray) (A:Option Addr) (n cap:Nat) (w:World) (hop:105 ≤ op∧op ≤ 123) :
  Calls Tryz.prog 99 #[.agg #[.int .i64 op,.int .i64 d,.int .i64 a,.int .i64 b,.int .i64 ty.base,.int .i64 ty.bits,.string ty.name,.bool ty.opt,.bool ty.err,.string nm,.slice A n cap]] w fun e w'=>UsesZ [a,b] w e w':=by
 have HO:Hid (((w.alloc (.cells #[.int .i64 op,.int .i64 d,.int .i64 a,.int .i64 b,.int .i64 ty.base,.int .i64 ty.bits,.string ty.name,.bool ty.opt,.bool ty.err,.string nm,.slice A n cap] 67)).alloc (.cells #[.int .i64 a,.int .i64 b] 3)).ownsRow w.heap.size 3 1 (.slice (some ⟨w.heap.size + 1,0,none⟩) 2 2) 2 ([a,b].map (Value.int .i64))):=own_lit (zs:=[a,b]) (blk2 w _ 3 #[.int .i64 a,.int .i64 b]) (by omega) (by simp)
 obtain ⟨hop1,hop2⟩:=hop
 all_goals
  go_enter Tryz.func99,Tryz.ntmps99
  go_wp2_with (first
   | (go_at_call 105; refine (sort_own HO.out rfl (by decide)).mono ?_; rintro r w1 ⟨rfl,g1,o1⟩; have G1:=Lib.hid g1; have O1:=Lib.hid o1; clear g1 o1)
   | (go_at_call 106; refine (compact_own O1.out (by rw [sortI_len]; rfl) (by decide)).mono ?_; rintro r w2 ⟨v2,rfl,hv2,g2,o2⟩; have G2:=Lib.hid g2; have O2:=Lib.hid o2; clear g2 o2))
  go_ret
  exact UsesZ.mk_ rfl exA HO.out G1.out O1.out hv2 G2.out O2.out
theorem guses_any (x:Rg) (w:World) (hop:isOpB x.op=true) :
  Calls Tryz.prog 99 #[.agg #[.int .i64 x.op,.int .i64 x.d,.int .i64 x.a,.int .i64 x.b,.int .i64 x.ty.base,.int .i64 x.ty.bits,.string x.ty.name,.bool x.ty.opt,.bool x.ty.err,.string x.name,.slice x.A x.args.length x.cap]] w fun e w'=>UsesZ (usesR x) w e w':=by
 obtain ⟨op,d,a,b,ty,nm,A,cap,args⟩:=x
 simp only [] at *
 have h:(op=0 ∨ op=1 ∨ op=3 ∨ op=12 ∨ op=14 ∨ op=16 ∨ op=17) ∨ op=4 ∨ (op=2 ∨ op=5 ∨ op=6 ∨ op=7 ∨ op=8 ∨ op=9 ∨ op=10 ∨ op=11 ∨ op=13 ∨ op=15) ∨ (105 ≤ op∧op ≤ 123):=by
  unfold isOpB at hop
  simp only [Bool.or_eq_true,inB_iff] at hop
  omega
 rcases h with h | h | h | h
 ·have e:usesR ⟨op,d,a,b,ty,nm,A,cap,args⟩=[]:=by
   unfold usesR
   rcases h with rfl | rfl | rfl | rfl | rfl | rfl | rfl <;> rfl
  rw [e]
  exact guses_none op d a b ty nm A args.length cap w h
 ·have e:usesR ⟨op,d,a,b,ty,nm,A,cap,args⟩=[b]:=by subst h; rfl
  rw [e]
  exact guses_b op d a b ty nm A args.length cap w h
 ·have e:usesR ⟨op,d,a,b,ty,nm,A,cap,args⟩=[a]:=by
   unfold usesR
   rcases h with rfl | rfl | rfl | rfl | rfl | rfl | rfl | rfl | rfl | rfl <;> rfl
  rw [e]
  exact guses_a op d a b ty nm A args.length cap w h
 ·have e:usesR ⟨op,d,a,b,ty,nm,A,cap,args⟩=[a,b]:=by
   unfold usesR
   simp only []
   rw [partsR_op (by omega)]
   rfl
  rw [e]
  exact guses_ab op d a b ty nm A args.length cap w h
def writesR (x:Rg):Bool:=(partsR x.op).1 == 1
theorem gwrites_any (x:Rg) (w:World) (hop:isOpB x.op=true) :
  Calls Tryz.prog 102 #[.agg #[.int .i64 x.op,.int .i64 x.d,.int .i64 x.a,.int .i64 x.b,.int .i64 x.ty.base,.int .i64 x.ty.bits,.string x.ty.name,.bool x.ty.opt,.bool x.ty.err,.string x.name,.slice x.A x.args.length x.cap]] w fun e w'=>e=.returned (.tuple #[.int .i64 (if writesR x=true then x.d else 0),.bool (writesR x)])∧Ext w w':=by
 obtain ⟨op,d,a,b,ty,nm,A,cap,args⟩:=x
 simp only [] at *
 have h:(op=4 ∨ op=10 ∨ op=11 ∨ op=12 ∨ op=13 ∨ op=15 ∨ op=17) ∨ (op ≠ 4∧op ≠ 10∧op ≠ 11∧op ≠ 12∧op ≠ 13∧op ≠ 15∧op ≠ 17):=by omega
 rcases h with h | ⟨h1,h2,h3,h4,h5,h6,h7⟩
 ·rcases h with rfl | rfl | rfl | rfl | rfl | rfl | rfl
  all_goals
   go_enter Tryz.func102,Tryz.ntmps102
   go_wp2_with fail
   go_ret2
   exact ⟨rfl,exA⟩
 ·have e:Hid (writesR ⟨op,d,a,b,ty,nm,A,cap,args⟩=true):=by
   have h:op=0 ∨ op=1 ∨ op=2 ∨ op=3 ∨ op=5 ∨ op=6 ∨ op=7 ∨ op=8 ∨ op=9 ∨ op=14 ∨ op=16 ∨ 18 ≤ op:=by
    unfold isOpB at hop
    simp only [Bool.or_eq_true,inB_iff] at hop
    omega
   unfold Hid writesR
   rcases h with rfl | rfl | rfl | rfl | rfl | rfl | rfl | rfl | rfl | rfl | rfl | h
   all_goals first | rfl | (simp only []; rw [partsR_op h]; rfl)
  rw [e.out,if_pos rfl]
  clear hop e
  go_enter Tryz.func102,Tryz.ntmps102
  go_wp2_with fail
  go_ret2
  exact ⟨rfl,exA⟩
end Go.Proofs.YtknaemlnhediaaaGreatDoor.c
