/- Arguments that are lists of functions of stack code: what their reading says of memory. No condition. Arguments that are register code, values and calls: what their reading says of memory. No condition. An instruction as an argument of its own, and a list of numbers beside a number: opened. No condition. Arguments that are programs: what their reading says of memory. No condition. Arguments that are programs: each node opened; a program. No condition. -/
import Derived.Test.YtmmnhbhnjiajhaaGreatDoorSRlex
import Derived.Deep.Slices
import Derived.ChangeSame
import Derived.DeepKeys4
import Derived.Test.YtmmnhbhnjiajhaaGreatDoorSLw
import Derived.Test.YtmmnhbhnjiajhaaGreatDoorSUs
namespace Go.Proofs.YtmmnhbhnjiajhaaGreatDoor.c
open Go.RowKit Go.ChangeShapes Go.WideShapes Go.Deep
set_option linter.unusedVariables false
set_option maxRecDepth 100000
set_option maxHeartbeats 1600000
set_option linter.unusedSimpArgs false
theorem weights_each {H:Type} {P:Program}:∀ {ts:List TypeId} {ds:List (DataW H)} {j:Nat} {t:TypeId} {d:DataW H} {x:Nat},ts[j]?=some t → ds[j]?=some d → x ∈ d.weights P t → x ∈ DataW.weightsEach P ts ds
 | [],_,_,_,_,_,h,_,_=>by cases h
 | _ :: _,[],_,_,_,_,_,h,_=>by cases h
 | t' :: ts,d' :: ds,0,t,d,x,h,h2,hx=>by
  obtain rfl:t'=t:=Option.some.inj h
  obtain rfl:d'=d:=Option.some.inj h2
  rw [DataW.weightsEach,List.mem_append]
  exact .inl hx
 | t' :: ts,d' :: ds,j + 1,t,d,x,h,h2,hx=>by
  rw [DataW.weightsEach,List.mem_append]
  exact .inr (weights_each (j:=j) h h2 hx)
section
variable {H:Type} {enc:TypeId × Value → H} {w:World} {base:Nat} {spare:Nat → Bool} {held:Bool} {n:Nat} {cs:List Value} {x:DataW H × List MemPlace}
theorem open_ty (h:DataW.trod enc Tryz.prog w base spare held n 32 cs=some x):∃ T:Ty,cs=[.int .i64 T.base,.int .i64 T.bits,.string T.name,.bool T.opt,.bool T.err]:=by
 obtain ⟨xs,m,_,rfl,hlen,hxl,hf⟩:=DataW.trod_struct Tryz.underlying32 h
 have h5:cs.length=5:=hlen.trans (by kernel_rfl)
 have k3:Tryz.prog.cellsOf 3 = 1:=by kernel_rfl
 have k9:Tryz.prog.cellsOf 9 = 1:=by kernel_rfl
 have k4:Tryz.prog.cellsOf 4 = 1:=by kernel_rfl
 match cs,h5 with
 | [c0,c1,c2,c3,c4],_ =>
  match xs,hxl with
  | [y0,y1,y2,y3,y4],_ =>
   obtain ⟨z0,e0,_⟩:=DataW.trod_int Tryz.underlying3 (show _=some y0 by simpa [k3] using hf 0 _ rfl)
   obtain ⟨z1,e1,_⟩:=DataW.trod_int Tryz.underlying3 (show _=some y1 by simpa [k3] using hf 1 _ rfl)
   obtain ⟨z2,e2,_⟩:=DataW.trod_string Tryz.underlying9 (show _=some y2 by simpa [k9] using hf 2 _ rfl)
   obtain ⟨z3,e3,_⟩:=DataW.trod_bool Tryz.underlying4 (show _=some y3 by simpa [k4] using hf 3 _ rfl)
   obtain ⟨z4,e4,_⟩:=DataW.trod_bool Tryz.underlying4 (show _=some y4 by simpa [k4] using hf 4 _ rfl)
   cases e0; cases e1; cases e2; cases e3; cases e4
   exact ⟨⟨z0,z1,z2,z3,z4⟩,rfl⟩
end
theorem laid_out:laidOutB Tryz.prog=true:=by kernel_rfl
noncomputable def V0 (w:World):Vw:=vp (fun b=>b < w.heap.size) w
theorem v0_of {w:World} {b o:Nat} {v:Value} (h:w.cell? ⟨b,o,none⟩=some v):V0 w b o=some v:=by
 unfold V0 vp
 rw [if_pos (cell_lt h)]
 exact h
def tyK (k:Nat):TypeId:=if k=0 then 36 else if k=1 then 44 else if k=2 then 34 else if k=3 then 101 else if k=4 then 40 else 38
theorem LW.cons {V:Vw} {y t:Nd} {k:Nat} {ys:List Value} (h1:y.len=1) (he:Elems V y k ys) (hy:LW y) (ht:LW t) (hb:(t.len + 1) * bzK k ≤ 140737488355328):LW (y.app t):=by
 cases y with
 | nil=>exact absurd h1 (by decide)
 | ex o ty n m a b tl =>
  obtain rfl:tl=.nil:=tl_one h1
  obtain ⟨rfl,_⟩:=he
  exact ⟨hb,hy.2.1,hy.2.2.1,ht⟩
 | st o n ty a b c tl =>
  obtain rfl:tl=.nil:=tl_one h1
  obtain ⟨rfl,_⟩:=he
  exact ⟨hb,hy.2.1,hy.2.2.1,hy.2.2.2.1,ht⟩
 | bl b tl =>
  obtain rfl:tl=.nil:=tl_one h1
  obtain ⟨rfl,_⟩:=he
  exact ⟨hb,hy.2.1,ht⟩
 | ca l h b tl =>
  obtain rfl:tl=.nil:=tl_one h1
  obtain ⟨rfl,_⟩:=he
  exact ⟨hb,hy.2.1,ht⟩
 | pa n ty m tl =>
  obtain rfl:tl=.nil:=tl_one h1
  obtain ⟨rfl,_⟩:=he
  exact ⟨hb,ht⟩
 | de f n p ty v b tl =>
  obtain rfl:tl=.nil:=tl_one h1
  obtain ⟨rfl,_⟩:=he
  exact ⟨hb,hy.2.1,hy.2.2.1,hy.2.2.2.1,ht⟩
def bld (F:Nat → Nd × List Value) (i:Nat):Nat → Nd × List Value
 | 0=>(.nil,[])
 | m + 1=>((F i).1.app (bld F (i + 1) m).1,(F i).2 ++ (bld F (i + 1) m).2)
theorem bld_ok {V:Vw} {w:World} {a:Addr} {k:Nat} {F:Nat → Nd × List Value} {len:Nat} (hb:len * bzK k ≤ 140737488355328)
  (hF:∀ i,i < len → (∀ j,j < szK k → w.cell? ((a.add (i * szK k)).add j)=(F i).2[j]?)∧(F i).1.len=1∧Elems V (F i).1 k (F i).2∧LW (F i).1) :
  ∀ m i,i + m=len → (bld F i m).1.len=m∧Elems V (bld F i m).1 k (bld F i m).2∧LW (bld F i m).1∧∀ j v,(bld F i m).2[j]?=some v → w.cell? (a.add (i * szK k + j))=some v:=by
 intro m
 induction m with
 | zero=>exact fun i _=>⟨rfl,rfl,trivial,fun j v h=>by simp [bld] at h⟩
 | succ m ih =>
  intro i hi
  obtain ⟨h1,h2,h3,h4⟩:=hF i (by omega)
  obtain ⟨i1,i2,i3,i4⟩:=ih (i + 1) (by omega)
  have hl:(F i).2.length=szK k:=by have:=Elems.length _ _ _ h3; rw [h2,Nat.one_mul] at this; exact this
  refine ⟨by rw [bld,app_len,h2,i1]; omega,Elems.app _ _ _ _ _ h3 i2,LW.cons h2 h3 h4 i3 ?_,fun j v hv=>?_⟩
  ·rw [i1]
   exact Nat.le_trans (Nat.mul_le_mul_right _ (by omega)) hb
  ·rw [bld] at hv
   rcases Nat.lt_or_ge j (F i).2.length with hj | hj
   ·rw [List.getElem?_append_left hj] at hv
    have h9:=h1 j (by omega)
    rw [Go.Deep.add_add,hv] at h9
    exact h9
   ·rw [List.getElem?_append_right hj] at hv
    have h9:=i4 _ v hv
    rw [show (i + 1) * szK k + (j - (F i).2.length)=i * szK k + j by rw [Nat.succ_mul]; omega] at h9
    exact h9
section
variable {H:Type} {enc:TypeId × Value → H} {w:World} {base:Nat} {spare:Nat → Bool} {held:Bool} {n:Nat} {cs:List Value} {x:DataW H × List MemPlace}
theorem weights_in {e:TypeId} {l:List (DataW H)} {d:DataW H} {y:Nat} (h:d ∈ l) (hx:y ∈ d.weights Tryz.prog e):y ∈ DataW.weightsAll Tryz.prog e l:=by
 induction l with
 | nil=>cases h
 | cons a l ih =>
  rw [DataW.weightsAll,List.mem_append]
  rcases List.mem_cons.1 h with rfl | h
  ·exact .inl hx
  ·exact .inr (ih h)
theorem open_nds {k:Nat} {t e:TypeId} (ht:Tryz.prog.underlying t=some (.slice e)) (hC:Tryz.prog.cellsOf e=szK k) (hB:Tryz.prog.bytesOf e=bzK k)
  (hw:∀ y,y ∈ x.1.weights Tryz.prog t → y ≤ reachBytes) (h:DataW.trod enc Tryz.prog w base spare held n t cs=some x)
  (one:∀ m,m < n → ∀ cs' (x':DataW H × List MemPlace),(∀ y,y ∈ x'.1.weights Tryz.prog e → y ≤ reachBytes) → DataW.trod enc Tryz.prog w base spare held m e cs'=some x' → ∃ y:Nd,y.len=1∧Elems (V0 w) y k cs'∧LW y) :
  ∃ (y:Nd) (v:Value),cs=[v]∧Sl (V0 w) v y k∧LW y:=by
 rcases DataW.trod_slice ht h with ⟨rfl,_⟩ | ⟨a,len,cap,elems,rest,m,hfu,rfl,rfl,hb,hl,hm,hlen,hel,hsp,hns⟩
 ·exact ⟨.nil,_,rfl,Sl.nil _ none 0 k,trivial⟩
 simp only [DataW.weights,ht] at hw
 have hr:reachBytes ≤ 140737488355328:=by decide
 have hbl:len * bzK k ≤ 140737488355328:=by
  have h1:=hw _ (List.mem_cons_self ..)
  rw [hB,List.length_map,List.length_map,hlen,Nat.add_mul] at h1
  omega
 have hel2:∀ i,i < len → ∃ F:Nd × List Value,(∀ j,j < szK k → w.cell? ((a.add (i * szK k)).add j)=F.2[j]?)∧F.1.len=1∧Elems (V0 w) F.1 k F.2∧LW F.1:=fun i hi=>by
  have h1:=hel i hi
  rw [List.getElem?_eq_getElem (by omega)] at h1
  obtain ⟨cs',h2,h3⟩:=Option.bind_eq_some_iff.1 h1
  obtain ⟨y,hy1,hy2,hy3⟩:=one m (by omega) cs' _ (fun y hy=>hw y (List.mem_cons_of_mem _ (List.mem_append_left _ (weights_in (List.mem_map.2 ⟨_,List.getElem_mem (by omega),rfl⟩) hy)))) h3
  rw [hC] at h2
  obtain ⟨_,_,h5⟩:=World.cells?_some h2
  exact ⟨(y,cs'),fun j hj=>h5 j hj,hy1,hy2,hy3⟩
 haveI:Inhabited (Nd × List Value):=⟨(.nil,[])⟩
 obtain ⟨F,hF⟩:=choose_lt (α:=Nd × List Value) (n:=len) hel2
 obtain ⟨b1,b2,b3,b4⟩:=bld_ok hbl hF len 0 (by omega)
 refine ⟨(bld F 0 len).1,_,rfl,⟨some a,cap,(bld F 0 len).2,by rw [b1],fun hne=>?_,b2⟩,b3⟩
 have hpos:0 < len:=by
  rcases Nat.eq_zero_or_pos len with h0 | h0
  ·rw [h0] at hne; exact absurd rfl hne
  ·exact h0
 obtain ⟨v0,hv0⟩:∃ v0,(bld F 0 len).2[0]?=some v0:=by
  cases hq:(bld F 0 len).2 with
  | nil=>exact absurd hq hne
  | cons z zs=>exact ⟨z,rfl⟩
 have c0:=b4 0 v0 hv0
 rw [Nat.zero_mul,Nat.zero_add,Addr.add_zero'] at c0
 obtain ⟨b,off,sp⟩:=a
 obtain rfl:sp=none:=World.cell?_spot c0
 refine ⟨b,off,rfl,fun i v hv=>?_⟩
 have c1:=b4 i v hv
 rw [Nat.zero_mul,Nat.zero_add,add_plain] at c1
 exact v0_of c1
def OE (H:Type) (enc:TypeId × Value → H) (w:World) (base:Nat) (spare:Nat → Bool) (held:Bool) (n:Nat):Prop:=∀ (k:Nat) (cs:List Value) (x:DataW H × List MemPlace),k < 6 → (∀ y,y ∈ x.1.weights Tryz.prog (tyK k) → y ≤ reachBytes) → DataW.trod enc Tryz.prog w base spare held n (tyK k) cs=some x → ∃ y:Nd,y.len=1∧Elems (V0 w) y k cs∧LW y
theorem open_ls {k:Nat} (hk:k < 6) {t:TypeId} (ht:Tryz.prog.underlying t=some (.slice (tyK k))) (hC:Tryz.prog.cellsOf (tyK k)=szK k) (hB:Tryz.prog.bytesOf (tyK k)=bzK k) {N:Nat} (hn:n < N) (ih:∀ m,m < N → OE H enc w base spare held m)
  (hw:∀ y,y ∈ x.1.weights Tryz.prog t → y ≤ reachBytes) (h:DataW.trod enc Tryz.prog w base spare held n t cs=some x):∃ (y:Nd) (v:Value),cs=[v]∧Sl (V0 w) v y k∧LW y :=
 open_nds ht hC hB hw h fun m hm cs' x' hw' h'=>ih m (by omega) k cs' x' hk hw' h'
theorem cellK:(Tryz.prog.cellsOf (tyK 0)=szK 0∧Tryz.prog.bytesOf (tyK 0)=bzK 0)∧(Tryz.prog.cellsOf (tyK 1)=szK 1∧Tryz.prog.bytesOf (tyK 1)=bzK 1)∧(Tryz.prog.cellsOf (tyK 2)=szK 2∧Tryz.prog.bytesOf (tyK 2)=bzK 2)∧(Tryz.prog.cellsOf (tyK 3)=szK 3∧Tryz.prog.bytesOf (tyK 3)=bzK 3)∧(Tryz.prog.cellsOf (tyK 4)=szK 4∧Tryz.prog.bytesOf (tyK 4)=bzK 4)∧(Tryz.prog.cellsOf (tyK 5)=szK 5∧Tryz.prog.bytesOf (tyK 5)=bzK 5) :=
 ⟨⟨by kernel_rfl,by kernel_rfl⟩,⟨by kernel_rfl,by kernel_rfl⟩,⟨by kernel_rfl,by kernel_rfl⟩,⟨by kernel_rfl,by kernel_rfl⟩,⟨by kernel_rfl,by kernel_rfl⟩,⟨by kernel_rfl,by kernel_rfl⟩⟩
end
section
variable {H:Type} {enc:TypeId × Value → H} {w:World} {base:Nat} {spare:Nat → Bool} {held:Bool} {n:Nat} {cs:List Value} {x:DataW H × List MemPlace}
theorem open_ex (ih:∀ m,m < n → OE H enc w base spare held m) (hw:∀ y,y ∈ x.1.weights Tryz.prog 36 → y ≤ reachBytes) (h:DataW.trod enc Tryz.prog w base spare held n 36 cs=some x):∃ y:Nd,y.len=1∧Elems (V0 w) y 0 cs∧LW y:=by
 obtain ⟨xs,m,rfl,rfl,hlen,hxl,hf⟩:=DataW.trod_struct Tryz.underlying36 h
 have hc:cs.length=10:=hlen.trans (by kernel_rfl)
 have k3:Tryz.prog.cellsOf 3 = 1:=by kernel_rfl
 have k9:Tryz.prog.cellsOf 9 = 1:=by kernel_rfl
 have k4:Tryz.prog.cellsOf 4 = 1:=by kernel_rfl
 have k5:Tryz.prog.cellsOf 32 = 5:=by kernel_rfl
 have kx:Tryz.prog.cellsOf 36 = 10:=by kernel_rfl
 have ks0:Tryz.prog.cellsOf 33 = 1:=by kernel_rfl
 have ks1:Tryz.prog.cellsOf 34 = 1:=by kernel_rfl
 have ks2:Tryz.prog.cellsOf 41 = 1:=by kernel_rfl
 have ks3:Tryz.prog.cellsOf 42 = 1:=by kernel_rfl
 have ks4:Tryz.prog.cellsOf 30 = 1:=by kernel_rfl
 have hW:∀ (j:Nat) (t:TypeId) (z:DataW H × List MemPlace),([3,32,9,3,33,34]:List TypeId)[j]?=some t → xs[j]?=some z → ∀ y,y ∈ z.1.weights Tryz.prog t → y ≤ reachBytes:=fun j t z hj hz y hy=>hw y (by
  simp only [DataW.weights,Tryz.underlying36]
  exact weights_each (j:=j) hj (by rw [List.getElem?_map,hz]; rfl) hy)
 match cs,hc with
 | [c0,c1,c2,c3,c4,c5,c6,c7,c8,c9],_ =>
  match xs,hxl with
  | [y0,y1,y2,y3,y4,y5],_ =>
   obtain ⟨z0,e0,_⟩:=DataW.trod_int Tryz.underlying3 (show _=some y0 by simpa [k3] using hf 0 _ rfl)
   obtain ⟨T1,e1⟩:=open_ty (show _=some y1 by simpa [k5] using hf 1 _ rfl)
   obtain ⟨z2,e2,_⟩:=DataW.trod_string Tryz.underlying9 (show _=some y2 by simpa [k9] using hf 2 _ rfl)
   obtain ⟨z3,e3,_⟩:=DataW.trod_int Tryz.underlying3 (show _=some y3 by simpa [k3] using hf 3 _ rfl)
   obtain ⟨a4,v4,e4,hs4,hl4⟩:=open_ls (k:=0) (by decide) Tryz.underlying33 cellK.1.1 cellK.1.2 (Nat.lt_succ_self m) ih (hW 4 _ _ rfl rfl) (show _=some y4 by simpa [ks0] using hf 4 _ rfl)
   obtain ⟨a5,v5,e5,hs5,hl5⟩:=open_ls (k:=1) (by decide) Tryz.underlying34 cellK.2.1.1 cellK.2.1.2 (Nat.lt_succ_self m) ih (hW 5 _ _ rfl rfl) (show _=some y5 by simpa [ks1] using hf 5 _ rfl)
   cases e0; cases e1; cases e2; cases e3; cases e4; cases e5
   exact ⟨.ex z0 T1 z2 z3 a4 a5 .nil,rfl,⟨rfl,_,_,[],rfl,hs4,hs5,rfl⟩,by decide,hl4,hl5,trivial⟩
theorem open_st (ih:∀ m,m < n → OE H enc w base spare held m) (hw:∀ y,y ∈ x.1.weights Tryz.prog 44 → y ≤ reachBytes) (h:DataW.trod enc Tryz.prog w base spare held n 44 cs=some x):∃ y:Nd,y.len=1∧Elems (V0 w) y 1 cs∧LW y:=by
 obtain ⟨xs,m,rfl,rfl,hlen,hxl,hf⟩:=DataW.trod_struct Tryz.underlying44 h
 have hc:cs.length=10:=hlen.trans (by kernel_rfl)
 have k3:Tryz.prog.cellsOf 3 = 1:=by kernel_rfl
 have k9:Tryz.prog.cellsOf 9 = 1:=by kernel_rfl
 have k4:Tryz.prog.cellsOf 4 = 1:=by kernel_rfl
 have k5:Tryz.prog.cellsOf 32 = 5:=by kernel_rfl
 have kx:Tryz.prog.cellsOf 36 = 10:=by kernel_rfl
 have ks0:Tryz.prog.cellsOf 33 = 1:=by kernel_rfl
 have ks1:Tryz.prog.cellsOf 34 = 1:=by kernel_rfl
 have ks2:Tryz.prog.cellsOf 41 = 1:=by kernel_rfl
 have ks3:Tryz.prog.cellsOf 42 = 1:=by kernel_rfl
 have ks4:Tryz.prog.cellsOf 30 = 1:=by kernel_rfl
 have hW:∀ (j:Nat) (t:TypeId) (z:DataW H × List MemPlace),([3,9,32,33,41,42]:List TypeId)[j]?=some t → xs[j]?=some z → ∀ y,y ∈ z.1.weights Tryz.prog t → y ≤ reachBytes:=fun j t z hj hz y hy=>hw y (by
  simp only [DataW.weights,Tryz.underlying44]
  exact weights_each (j:=j) hj (by rw [List.getElem?_map,hz]; rfl) hy)
 match cs,hc with
 | [c0,c1,c2,c3,c4,c5,c6,c7,c8,c9],_ =>
  match xs,hxl with
  | [y0,y1,y2,y3,y4,y5],_ =>
   obtain ⟨z0,e0,_⟩:=DataW.trod_int Tryz.underlying3 (show _=some y0 by simpa [k3] using hf 0 _ rfl)
   obtain ⟨z1,e1,_⟩:=DataW.trod_string Tryz.underlying9 (show _=some y1 by simpa [k9] using hf 1 _ rfl)
   obtain ⟨T2,e2⟩:=open_ty (show _=some y2 by simpa [k5] using hf 2 _ rfl)
   obtain ⟨a3,v3,e3,hs3,hl3⟩:=open_ls (k:=0) (by decide) Tryz.underlying33 cellK.1.1 cellK.1.2 (Nat.lt_succ_self m) ih (hW 3 _ _ rfl rfl) (show _=some y3 by simpa [ks0] using hf 3 _ rfl)
   obtain ⟨a4,v4,e4,hs4,hl4⟩:=open_ls (k:=2) (by decide) Tryz.underlying41 cellK.2.2.1.1 cellK.2.2.1.2 (Nat.lt_succ_self m) ih (hW 4 _ _ rfl rfl) (show _=some y4 by simpa [ks2] using hf 4 _ rfl)
   obtain ⟨a5,v5,e5,hs5,hl5⟩:=open_ls (k:=3) (by decide) Tryz.underlying42 cellK.2.2.2.1.1 cellK.2.2.2.1.2 (Nat.lt_succ_self m) ih (hW 5 _ _ rfl rfl) (show _=some y5 by simpa [ks3] using hf 5 _ rfl)
   cases e0; cases e1; cases e2; cases e3; cases e4; cases e5
   exact ⟨.st z0 z1 T2 a3 a4 a5 .nil,rfl,⟨rfl,_,_,_,[],rfl,hs3,hs4,hs5,rfl⟩,by decide,hl3,hl4,hl5,trivial⟩
theorem open_ca (ih:∀ m,m < n → OE H enc w base spare held m) (hw:∀ y,y ∈ x.1.weights Tryz.prog 101 → y ≤ reachBytes) (h:DataW.trod enc Tryz.prog w base spare held n 101 cs=some x):∃ y:Nd,y.len=1∧Elems (V0 w) y 3 cs∧LW y:=by
 obtain ⟨xs,m,rfl,rfl,hlen,hxl,hf⟩:=DataW.trod_struct Tryz.underlying101 h
 have hc:cs.length=3:=hlen.trans (by kernel_rfl)
 have k3:Tryz.prog.cellsOf 3 = 1:=by kernel_rfl
 have k9:Tryz.prog.cellsOf 9 = 1:=by kernel_rfl
 have k4:Tryz.prog.cellsOf 4 = 1:=by kernel_rfl
 have k5:Tryz.prog.cellsOf 32 = 5:=by kernel_rfl
 have kx:Tryz.prog.cellsOf 36 = 10:=by kernel_rfl
 have ks0:Tryz.prog.cellsOf 33 = 1:=by kernel_rfl
 have ks1:Tryz.prog.cellsOf 34 = 1:=by kernel_rfl
 have ks2:Tryz.prog.cellsOf 41 = 1:=by kernel_rfl
 have ks3:Tryz.prog.cellsOf 42 = 1:=by kernel_rfl
 have ks4:Tryz.prog.cellsOf 30 = 1:=by kernel_rfl
 have hW:∀ (j:Nat) (t:TypeId) (z:DataW H × List MemPlace),([3,3,34]:List TypeId)[j]?=some t → xs[j]?=some z → ∀ y,y ∈ z.1.weights Tryz.prog t → y ≤ reachBytes:=fun j t z hj hz y hy=>hw y (by
  simp only [DataW.weights,Tryz.underlying101]
  exact weights_each (j:=j) hj (by rw [List.getElem?_map,hz]; rfl) hy)
 match cs,hc with
 | [c0,c1,c2],_ =>
  match xs,hxl with
  | [y0,y1,y2],_ =>
   obtain ⟨z0,e0,_⟩:=DataW.trod_int Tryz.underlying3 (show _=some y0 by simpa [k3] using hf 0 _ rfl)
   obtain ⟨z1,e1,_⟩:=DataW.trod_int Tryz.underlying3 (show _=some y1 by simpa [k3] using hf 1 _ rfl)
   obtain ⟨a2,v2,e2,hs2,hl2⟩:=open_ls (k:=1) (by decide) Tryz.underlying34 cellK.2.1.1 cellK.2.1.2 (Nat.lt_succ_self m) ih (hW 2 _ _ rfl rfl) (show _=some y2 by simpa [ks1] using hf 2 _ rfl)
   cases e0; cases e1; cases e2
   exact ⟨.ca z0 z1 a2 .nil,rfl,⟨rfl,_,[],rfl,hs2,rfl⟩,by decide,hl2,trivial⟩
theorem open_pa (ih:∀ m,m < n → OE H enc w base spare held m) (hw:∀ y,y ∈ x.1.weights Tryz.prog 40 → y ≤ reachBytes) (h:DataW.trod enc Tryz.prog w base spare held n 40 cs=some x):∃ y:Nd,y.len=1∧Elems (V0 w) y 4 cs∧LW y:=by
 obtain ⟨xs,m,rfl,rfl,hlen,hxl,hf⟩:=DataW.trod_struct Tryz.underlying40 h
 have hc:cs.length=7:=hlen.trans (by kernel_rfl)
 have k3:Tryz.prog.cellsOf 3 = 1:=by kernel_rfl
 have k9:Tryz.prog.cellsOf 9 = 1:=by kernel_rfl
 have k4:Tryz.prog.cellsOf 4 = 1:=by kernel_rfl
 have k5:Tryz.prog.cellsOf 32 = 5:=by kernel_rfl
 have kx:Tryz.prog.cellsOf 36 = 10:=by kernel_rfl
 have ks0:Tryz.prog.cellsOf 33 = 1:=by kernel_rfl
 have ks1:Tryz.prog.cellsOf 34 = 1:=by kernel_rfl
 have ks2:Tryz.prog.cellsOf 41 = 1:=by kernel_rfl
 have ks3:Tryz.prog.cellsOf 42 = 1:=by kernel_rfl
 have ks4:Tryz.prog.cellsOf 30 = 1:=by kernel_rfl
 have hW:∀ (j:Nat) (t:TypeId) (z:DataW H × List MemPlace),([9,32,4]:List TypeId)[j]?=some t → xs[j]?=some z → ∀ y,y ∈ z.1.weights Tryz.prog t → y ≤ reachBytes:=fun j t z hj hz y hy=>hw y (by
  simp only [DataW.weights,Tryz.underlying40]
  exact weights_each (j:=j) hj (by rw [List.getElem?_map,hz]; rfl) hy)
 match cs,hc with
 | [c0,c1,c2,c3,c4,c5,c6],_ =>
  match xs,hxl with
  | [y0,y1,y2],_ =>
   obtain ⟨z0,e0,_⟩:=DataW.trod_string Tryz.underlying9 (show _=some y0 by simpa [k9] using hf 0 _ rfl)
   obtain ⟨T1,e1⟩:=open_ty (show _=some y1 by simpa [k5] using hf 1 _ rfl)
   obtain ⟨z2,e2,_⟩:=DataW.trod_bool Tryz.underlying4 (show _=some y2 by simpa [k4] using hf 2 _ rfl)
   cases e0; cases e1; cases e2
   exact ⟨.pa z0 T1 z2 .nil,rfl,⟨rfl,[],rfl,rfl⟩,by decide,trivial⟩
theorem open_de (ih:∀ m,m < n → OE H enc w base spare held m) (hw:∀ y,y ∈ x.1.weights Tryz.prog 38 → y ≤ reachBytes) (h:DataW.trod enc Tryz.prog w base spare held n 38 cs=some x):∃ y:Nd,y.len=1∧Elems (V0 w) y 5 cs∧LW y:=by
 obtain ⟨xs,m,rfl,rfl,hlen,hxl,hf⟩:=DataW.trod_struct Tryz.underlying38 h
 have hc:cs.length=19:=hlen.trans (by kernel_rfl)
 have k3:Tryz.prog.cellsOf 3 = 1:=by kernel_rfl
 have k9:Tryz.prog.cellsOf 9 = 1:=by kernel_rfl
 have k4:Tryz.prog.cellsOf 4 = 1:=by kernel_rfl
 have k5:Tryz.prog.cellsOf 32 = 5:=by kernel_rfl
 have kx:Tryz.prog.cellsOf 36 = 10:=by kernel_rfl
 have ks0:Tryz.prog.cellsOf 33 = 1:=by kernel_rfl
 have ks1:Tryz.prog.cellsOf 34 = 1:=by kernel_rfl
 have ks2:Tryz.prog.cellsOf 41 = 1:=by kernel_rfl
 have ks3:Tryz.prog.cellsOf 42 = 1:=by kernel_rfl
 have ks4:Tryz.prog.cellsOf 30 = 1:=by kernel_rfl
 have hW:∀ (j:Nat) (t:TypeId) (z:DataW H × List MemPlace),([4,9,30,32,36,34]:List TypeId)[j]?=some t → xs[j]?=some z → ∀ y,y ∈ z.1.weights Tryz.prog t → y ≤ reachBytes:=fun j t z hj hz y hy=>hw y (by
  simp only [DataW.weights,Tryz.underlying38]
  exact weights_each (j:=j) hj (by rw [List.getElem?_map,hz]; rfl) hy)
 match cs,hc with
 | [c0,c1,c2,c3,c4,c5,c6,c7,c8,c9,c10,c11,c12,c13,c14,c15,c16,c17,c18],_ =>
  match xs,hxl with
  | [y0,y1,y2,y3,y4,y5],_ =>
   obtain ⟨z0,e0,_⟩:=DataW.trod_bool Tryz.underlying4 (show _=some y0 by simpa [k4] using hf 0 _ rfl)
   obtain ⟨z1,e1,_⟩:=DataW.trod_string Tryz.underlying9 (show _=some y1 by simpa [k9] using hf 1 _ rfl)
   obtain ⟨a2,v2,e2,hs2,hl2⟩:=open_ls (k:=4) (by decide) Tryz.underlying30 cellK.2.2.2.2.1.1 cellK.2.2.2.2.1.2 (Nat.lt_succ_self m) ih (hW 2 _ _ rfl rfl) (show _=some y2 by simpa [ks4] using hf 2 _ rfl)
   obtain ⟨T3,e3⟩:=open_ty (show _=some y3 by simpa [k5] using hf 3 _ rfl)
   obtain ⟨a4,hn4,hs4,hl4⟩:=ih m (Nat.lt_succ_self m) 0 _ _ (by decide) (hW 4 36 _ rfl rfl) (show DataW.trod enc Tryz.prog w base spare held m 36 _=some y4 by simpa [kx] using hf 4 _ rfl)
   obtain ⟨a5,v5,e5,hs5,hl5⟩:=open_ls (k:=1) (by decide) Tryz.underlying34 cellK.2.1.1 cellK.2.1.2 (Nat.lt_succ_self m) ih (hW 5 _ _ rfl rfl) (show _=some y5 by simpa [ks1] using hf 5 _ rfl)
   cases e0; cases e1; cases e2; cases e3; cases e5
   exact ⟨.de z0 z1 a2 T3 a4 a5 .nil,rfl,⟨rfl,_,[c8,c9,c10,c11,c12,c13,c14,c15,c16,c17],_,[],rfl,hs2,hn4,hs4,hs5,rfl⟩,by decide,hl2,hl4,hl5,trivial⟩
theorem open_blk (ih:∀ m,m < n → OE H enc w base spare held m) (hw:∀ y,y ∈ x.1.weights Tryz.prog 34 → y ≤ reachBytes) (h:DataW.trod enc Tryz.prog w base spare held n 34 cs=some x):∃ y:Nd,y.len=1∧Elems (V0 w) y 2 cs∧LW y:=by
 obtain ⟨y,v,rfl,hs,hl⟩:=open_nds (k:=1) Tryz.underlying34 cellK.2.1.1 cellK.2.1.2 hw h fun m hm cs' x' hw' h'=>ih m hm 1 cs' x' (by decide) hw' h'
 exact ⟨.bl y .nil,rfl,⟨rfl,v,[],rfl,hs,rfl⟩,by decide,hl,trivial⟩
theorem open_every:∀ n,OE H enc w base spare held n:=by
 intro n
 induction n using Nat.strongRecOn with
 | ind n ih =>
  intro k cs x hk hw h
  match k,hk with
  | 0,_=>exact open_ex ih hw h
  | 1,_=>exact open_st ih hw h
  | 2,_=>exact open_blk ih hw h
  | 3,_=>exact open_ca ih hw h
  | 4,_=>exact open_pa ih hw h
  | 5,_=>exact open_de ih hw h
theorem open_prog (hw:∀ y,y ∈ x.1.weights Tryz.prog 23 → y ≤ reachBytes) (h:DataW.trod enc Tryz.prog w base spare held n 23 cs=some x):∃ (y:Nd) (v:Value),cs=[v]∧Sl (V0 w) v y 5∧LW y :=
 open_nds (k:=5) Tryz.underlying23 cellK.2.2.2.2.2.1 cellK.2.2.2.2.2.2 hw h fun m hm cs' x' hw' h'=>open_every m 5 cs' x' (by decide) hw' h'
end
end Go.Proofs.YtmmnhbhnjiajhaaGreatDoor.c
