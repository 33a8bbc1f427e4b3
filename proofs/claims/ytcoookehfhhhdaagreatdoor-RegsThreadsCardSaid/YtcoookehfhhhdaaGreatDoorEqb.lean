/- Plain lemmas on types and lists; contracts of the stack machine's small functions. Conditions: right types. -/
import Derived.Test.YtcoookehfhhhdaaGreatDoorTy
import Derived.Test.YtcoookehfhhhdaaGreatDoorLib
import Derived.Test.YtcoookehfhhhdaaGreatDoorReach
import Derived.Test.YtcoookehfhhhdaaGreatDoorDataF
import Derived.Test.YtcoookehfhhhdaaGreatDoorFlow
import Derived.Test.YtcoookehfhhhdaaGreatDoorUns
import Derived.Test.YtcoookehfhhhdaaGreatDoorRbw
import Derived.Test.YtcoookehfhhhdaaGreatDoorRgD
namespace Go.Proofs.YtcoookehfhhhdaaGreatDoor.c
open Go.RowKit
set_option linter.unusedVariables false
set_option maxRecDepth 100000
set_option maxHeartbeats 6400000
set_option linter.unusedSimpArgs false
theorem store_new {w1:World} {ops:Array Oper} {rest:List Oper} {o:Oper} {a:Act} {Q:Exit → Act → World → Prop} (ty:TypeId) (cur cs:Array Value) (hgd:o.guard=none) (x y:Operand) (ho:o.op=.store ty x y)
  (hx:a.eval x=.pointer (some ⟨w1.heap.size,0,none⟩)) (hy:a.eval y=.agg cs) (hs:cs.size=cur.size) (hz:(Tryz.prog.info? ty).map (·.size)=some cs.size) (h1:∀ v ∈ cs.toList,v.oneCell'=true)
  (h:∀ w2,Ext w1 w2 → Blk w2 w1.heap.size ty cs → wpList Tryz.prog ops Q rest (a.put o.dst undef) w2) :
  wpList Tryz.prog ops Q (o :: rest) a (w1.alloc (.cells cur ty)):=by
 refine wpList_store_row hgd ty x y ho w1.heap.size hx ty cur cs (Blk.new w1 _ _) hy hs h1 hz ?_
 exact h _ (((Ext.refl w1).alloc _).setRow (Nat.le_refl _) _) ((Blk.new w1 ty cur).row cs)
structure TxtX (x:Cd):Prop where
 ty:isTypeS x.ty=true
 name:emp x.name=true ∨ isNameS x.name=true
 op:-2147483648 ≤ x.op∧x.op ≤ 2147483648
 a:-2147483648 ≤ x.a∧x.a ≤ 2147483648
 b:-2147483648 ≤ x.b∧x.b ≤ 2147483648
structure TxtF (f:Fc):Prop where
 name:isNameS f.name=true
 ty:isTypeS f.ty=true
 params:0 ≤ f.params∧f.params ≤ 200
 places:0 ≤ f.places∧f.places ≤ 200
 code:∀ x,x ∈ f.code → TxtX x
theorem rintOfT_any (a b:Int) (n:ByteArray) (o e:Bool) (w:World) :
  Calls Tryz.prog 149 #[.agg #[.int .i64 a,.int .i64 b,.string n,.bool o,.bool e]] w fun r w'=>r=.returned (.agg #[.bool (a == 3),.int .i64 b])∧Ext w w':=by
 go_enter Tryz.func149,Tryz.ntmps149
 go_wp2
 exact bodyPost_ret (v:=.agg #[.bool (a == 3),.int .i64 b]) (by simp [results,Tryz.results149,go_sem]) rfl ⟨rfl,exA⟩
def okW (md:Region.Mode) (ops:Array Oper) (l:Array Bool) (i k:Nat):Bool:=okT md ops l i && (before md ops i 20 k && (closedB md ops l && (!l.getD k false && i != k)))
theorem tv {P:Program} {ops:Array Oper} {Q:Exit → Act → World → Prop} {md:Region.Mode} {k fuel:Nat} {B:Array Bool → Act → World → Prop} {listed:Array Bool} {a:Act} {op:Op} {ty:TypeId} {ps:String} {af:Array Edge} {g:Option (Nat × Bool)} (i t:Nat) (v:Value) (hi:ops[i]?=some ⟨some t,op,ty,ps,af,g⟩) (hok:okW md ops listed i k=true) (hQ:Calm Q) (hst:∀ l b w,B (l.setIfInBounds i true) (b.put (some t) v) w ↔ B l b w)
  (hw:Region.wanted ⟨some t,op,ty,ps,af,g⟩ (yielded ops a.tmps)=true) (hv:∀ l b w,l.getD k false=false → B l b w → (execOp a.eval ⟨some t,op,ty,ps,af,g⟩).run P w=.ok (.value v) w)
  (h:wpAnyU P md ops Q (FV P md ops Q k B) fuel (listed.setIfInBounds i true) (a.put (some t) v)):wpAnyU P md ops Q (FV P md ops Q k B) (fuel + 1) listed a:=by
 unfold okW at hok
 simp only [Bool.and_eq_true,Bool.not_eq_true',bne_iff_ne] at hok
 obtain ⟨h0,h1,h2,h3,h4⟩:=hok
 obtain ⟨a1,a2,a3⟩:=okT_spec h0
 exact flowV_take hi h4 h1 h2 h3 rfl a1 a2 a3 hQ hst (.inl ⟨hw,hv⟩) h
theorem tvp {P:Program} {ops:Array Oper} {Q:Exit → Act → World → Prop} {md:Region.Mode} {k fuel:Nat} {B:Array Bool → Act → World → Prop} {listed:Array Bool} {a:Act} {op:Op} {ty:TypeId} {ps:String} {af:Array Edge} {g:Option (Nat × Bool)} (i t:Nat) {v:Value} (hi:ops[i]?=some ⟨some t,op,ty,ps,af,g⟩) (hQ:Calm Q) (hst:∀ l b w,B (l.setIfInBounds i true) (b.put (some t) v) w ↔ B l b w) (h:wpAnyU P md ops Q (FV P md ops Q k B) fuel (listed.setIfInBounds i true) (a.put (some t) v)) (hok:okW md ops listed i k=true:=by kernel_rfl)
  (hw:Region.wanted ⟨some t,op,ty,ps,af,g⟩ (yielded ops a.tmps)=true:=by rfl)
  (hv:∀ l b w,l.getD k false=false → B l b w → (execOp a.eval ⟨some t,op,ty,ps,af,g⟩).run P w=.ok (.value v) w:=by (intro l b' w' hlk hF; go_simp; try with_reducible rfl)):wpAnyU P md ops Q (FV P md ops Q k B) (fuel + 1) listed a:=tv i t v hi hok hQ hst hw hv h
theorem tvd {P:Program} {ops:Array Oper} {Q:Exit → Act → World → Prop} {md:Region.Mode} {k fuel:Nat} {B:Array Bool → Act → World → Prop} {listed:Array Bool} {a:Act} {op:Op} {ty:TypeId} {ps:String} {af:Array Edge} {g:Option (Nat × Bool)} (i t:Nat) {v:Value} (hi:ops[i]?=some ⟨some t,op,ty,ps,af,g⟩) (hQ:Calm Q) (hst:∀ l b w,B (l.setIfInBounds i true) (b.put (some t) v) w ↔ B l b w) (h:wpAnyU P md ops Q (FV P md ops Q k B) fuel (listed.setIfInBounds i true) (a.put (some t) v)) (hok:okW md ops listed i k=true:=by kernel_rfl)
  (hw:Region.wanted ⟨some t,op,ty,ps,af,g⟩ (yielded ops a.tmps)=true:=by rfl)
  (hv:∀ l b w,l.getD k false=false → B l b w → (execOp a.eval ⟨some t,op,ty,ps,af,g⟩).run P w=.ok (.value v) w:=by (intro l b' w' hlk hF; have hq:=HD.out _ _ _ hF; go_simp; try with_reducible rfl)):wpAnyU P md ops Q (FV P md ops Q k B) (fuel + 1) listed a:=tv i t v hi hok hQ hst hw hv h
def itA (v:Val):Array Value:=#[.int .i64 v.n,.bool v.null,.string v.err]
theorem itA_one (v:Val):∀ u ∈ (itA v).toList,u.oneCell'=true:=by
 intro u hu
 simp [itA] at hu
 rcases hu with rfl | rfl | rfl <;> rfl
theorem sizeIt:(Tryz.prog.info? 86).map (·.size)=some 3:=by kernel_rfl
theorem ktruth_any (b:Bool) (w:World):Calls Tryz.prog 147 #[.bool b] w fun e w'=>e=.returned (.agg (itA (nv (b01 b))))∧Ext w w':=by
 have HZ:=Lib.hid sizeIt
 cases b
 ·go_enter Tryz.func147,Tryz.ntmps147
  go_wp2_with fail
  exact bodyPost_ret (results_cell_row rfl _ _ w.heap.size 86 (itA (nv (b01 false))) (0,0) _ rfl (Blk.new w _ _) Tryz.underlying86 rfl HZ.out) rfl ⟨rfl,exA⟩
 ·go_enter Tryz.func147,Tryz.ntmps147
  go_wp2_with fail
  exact bodyPost_ret (results_cell_row rfl _ _ w.heap.size 86 (itA (nv (b01 true))) (0,0) _ rfl (Blk.new w _ _) Tryz.underlying86 rfl HZ.out) rfl ⟨rfl,exA⟩
theorem kpushed_any (t:Ty) (n:Int) (w:World) (h:t.base=0 ∨ t.base=1 ∨ (2 ≤ t.base∧1 ≤ t.bits∧t.bits ≤ 31)) :
  Calls Tryz.prog 113 #[.agg #[.int .i64 t.base,.int .i64 t.bits,.string t.name,.bool t.opt,.bool t.err],.int .i64 n] w fun e w'=>e=.returned (.agg (itA (nv (wrapT t n))))∧Ext w w':=by
 have HZ:=Lib.hid sizeIt
 rcases h with h | h | ⟨h,h1,h2⟩
 ·have HW:Hid (wrapT t n=0):=by unfold Hid wrapT; rw [h]; rfl
  rw [HW.out,h]
  clear HW h
  go_enter Tryz.func113,Tryz.ntmps113
  go_wp2_with fail
  refine bodyPost_ret (results_cell_row rfl _ _ (w.heap.size + 1) 86 (itA (nv 0)) (0,0) _ rfl (new2 w _ _ _) Tryz.underlying86 rfl HZ.out) rfl ⟨rfl,exA⟩
 ·have HW:Hid (wrapT t n=b01 (n != 0)):=by
   unfold Hid wrapT
   rw [h]
   by_cases hn:n=0 <;> simp [hn,b01]
  rw [HW.out,h]
  clear HW h
  generalize hb:(n != 0)=b
  have B0:Hid (Blk ((w.alloc (.cells #[.int .i64 1,.int .i64 t.bits,.string t.name,.bool t.opt,.bool t.err] 42)).alloc (.cells #[.int .i64 0,.bool false,.string ⟨#[]⟩] 86)) (w.heap.size + 1) 86 #[.int .i64 0,.bool false,.string ⟨#[]⟩]):=new2 w _ _ _
  go_enter Tryz.func113,Tryz.ntmps113
  go_wp2_with (first
   | (go_at_call 147; refine (ktruth_any b _).mono ?_; rintro r w1 ⟨rfl,x1⟩; have B1:=Lib.hid (B0.out.ext x1); have X1:Hid (Ext w w1):=(by unfold Hid; exact exA); clear x1)
   | ((with_reducible show wpList _ _ _ (Oper.mk none (.store 86 (.tmp 4) _) _ _ _ _ :: _) _ _)
      refine wpList_store_row rfl 86 _ _ rfl (w.heap.size + 1) rfl 86 _ (itA (nv (b01 b))) B1.out rfl rfl (itA_one _) HZ.out ?_))
  exact bodyPost_ret (results_cell_row rfl _ _ (w.heap.size + 1) 86 (itA (nv (b01 b))) (0,0) _ rfl (B1.out.row _) Tryz.underlying86 rfl HZ.out) rfl ⟨rfl,X1.out.setRow (by omega) _⟩
 ·have HW:Hid (wrapT t n=bendI (t.base == 3) t.bits n):=by unfold Hid wrapT; rw [if_neg (by omega)]
  rw [HW.out]
  have n0:(t.base == 0)=false:=by simp; omega
  have n1:(t.base == 1)=false:=by simp; omega
  have HB:Hid (∀ w1,Calls Tryz.prog 148 #[.agg #[.bool (t.base == 3),.int .i64 t.bits],.int .i64 n] w1 fun e w'=>e=.returned (.int .i64 (bendI (t.base == 3) t.bits n))∧Ext w1 w'):=fun w1=>bent_any _ _ _ w1 h1 h2
  have B0:Hid (Blk ((w.alloc (.cells #[.int .i64 t.base,.int .i64 t.bits,.string t.name,.bool t.opt,.bool t.err] 42)).alloc (.cells #[.int .i64 0,.bool false,.string ⟨#[]⟩] 86)) (w.heap.size + 1) 86 #[.int .i64 0,.bool false,.string ⟨#[]⟩]):=new2 w _ _ _
  clear HW h
  generalize bendI (t.base == 3) t.bits n=N at *
  go_enter Tryz.func113,Tryz.ntmps113
  go_wp2_with (first
   | (go_at_call 149; refine (rintOfT_any _ _ _ _ _ _).mono ?_; rintro r w1 ⟨rfl,x1⟩; have B1:=Lib.hid (B0.out.ext x1))
   | (go_at_call 148; refine (HB.out _).mono ?_; rintro r w2 ⟨rfl,x2⟩; have B2:=Lib.hid (B1.out.ext x2); have X2:Hid (Ext w w2):=(by unfold Hid; exact exA); clear x1 x2)
   | ((with_reducible show wpList _ _ _ (Oper.mk none (.store 86 (.tmp 4) _) _ _ _ _ :: _) _ _)
      refine wpList_store_row rfl 86 _ _ rfl (w.heap.size + 1) rfl 86 _ (itA (nv N)) B2.out rfl rfl (itA_one _) HZ.out ?_))
  exact bodyPost_ret (results_cell_row rfl _ _ (w.heap.size + 1) 86 (itA (nv N)) (0,0) _ rfl (B2.out.row _) Tryz.underlying86 rfl HZ.out) rfl ⟨rfl,X2.out.setRow (by omega) _⟩
theorem new4 (w:World) (o p q:Obj) (cs:Array Value) (t:TypeId):Blk ((((w.alloc o).alloc p).alloc q).alloc (.cells cs t)) (w.heap.size + 1 + 1 + 1) t cs:=by
 have h:=Blk.new (((w.alloc o).alloc p).alloc q) t cs
 rwa [size_alloc,size_alloc,size_alloc] at h
theorem new3 (w:World) (o p:Obj) (cs:Array Value) (t:TypeId):Blk (((w.alloc o).alloc p).alloc (.cells cs t)) (w.heap.size + 1 + 1) t cs:=by
 have h:=Blk.new ((w.alloc o).alloc p) t cs
 rwa [size_alloc,size_alloc] at h
theorem kcompared_any (op:Int) (u v:Val) (w:World) :
  Calls Tryz.prog 115 #[.int .i64 op,.agg (itA u),.agg (itA v)] w fun e w'=>e=.returned (.agg (itA (nv (b01 (cmpB op u.n v.n)))))∧Ext w w':=by
 have HZ:=Lib.hid sizeIt
 unfold itA
 have B0:Hid (Blk (((w.alloc (.cells #[.int .i64 u.n,.bool u.null,.string u.err] 86)).alloc (.cells #[.int .i64 v.n,.bool v.null,.string v.err] 86)).alloc (.cells #[.int .i64 0,.bool false,.string ⟨#[]⟩] 86)) (w.heap.size + 1 + 1) 86 #[.int .i64 0,.bool false,.string ⟨#[]⟩]):=new3 w _ _ _ _
 generalize hb:cmpB op u.n v.n=b
 have HB:=Lib.hid hb
 clear hb
 go_enter Tryz.func115,Tryz.ntmps115
 go_wp2_with (first
  | (go_at_call 152; refine (holds_any _ _ _ _).mono ?_; rw [HB.out]; rintro r w1 ⟨rfl,rfl⟩)
  | (go_at_call 147; refine (ktruth_any b _).mono ?_; rintro r w1 ⟨rfl,x1⟩; have B1:=Lib.hid (B0.out.ext x1); have X1:Hid (Ext w w1):=(by unfold Hid; exact exA); clear x1)
  | ((with_reducible show wpList _ _ _ (Oper.mk none (.store 86 (.tmp 6) _) _ _ _ _ :: _) _ _)
     refine wpList_store_row rfl 86 _ _ rfl (w.heap.size + 1 + 1) rfl 86 _ (itA (nv (b01 b))) B1.out rfl rfl (itA_one _) HZ.out ?_))
 exact bodyPost_ret (results_cell_row rfl _ _ (w.heap.size + 1 + 1) 86 (itA (nv (b01 b))) (0,0) _ rfl (B1.out.row _) Tryz.underlying86 rfl HZ.out) rfl ⟨rfl,X1.out.setRow (by omega) _⟩
theorem enters_bent:Enters 148 := Enters.of Tryz.func148 (by kernel_rfl) (by kernel_rfl)
theorem koper_any (x:Cd) (u v:Val) (ck:Bool) (w:World) (h1:1 ≤ x.ty.bits) (h2:x.ty.bits ≤ 31) (h5:x.op=5) (ha:5 ≤ x.a∧x.a ≤ 17) :
  Calls Tryz.prog 114 #[.int .i64 x.a,.agg #[.int .i64 x.ty.base,.int .i64 x.ty.bits,.string x.ty.name,.bool x.ty.opt,.bool x.ty.err],.agg (itA u),.agg (itA v),.bool ck] w fun e w'=>e=.returned (.tuple #[.agg (itA (nv (twoK ck x u v).1)),.int .i64 (twoK ck x u v).2])∧Ext w w':=by
 have HZ:=Lib.hid sizeIt
 obtain ⟨op,a,b,t,nm⟩:=x
 simp only at h1 h2 h5 ha
 obtain ⟨N,hN⟩:∃ N,bendI (t.base == 3) t.bits u.n=N:=⟨_,rfl⟩
 obtain ⟨M,hM⟩:∃ M,bendI (t.base == 3) t.bits v.n=M:=⟨_,rfl⟩
 have fN:fitI (t.base == 3) t.bits N=true:=by rw [← hN]; exact bend_fit _ _ h1 h2
 have fM:fitI (t.base == 3) t.bits M=true:=by rw [← hM]; exact bend_fit _ _ h1 h2
 obtain ⟨q,hq⟩:∃ q,looseI a (t.base == 3) t.bits N M=q:=⟨_,rfl⟩
 obtain ⟨y,hy⟩:∃ y,whyI a (t.base == 3) t.bits N M=y:=⟨_,rfl⟩
 have HT:Hid (twoK ck ⟨op,a,b,t,nm⟩ u v=if (ck && y != 0)=true then (0,y) else (q,0)):=by
  unfold Hid twoK
  simp only []
  rw [if_neg (by omega),hN,hM,hy,hq]
 have HF:Hid (∀ w1,Calls Tryz.prog 150 #[.int .i64 a,.agg #[.bool (t.base == 3),.int .i64 t.bits],.int .i64 N,.int .i64 M] w1 fun e w'=>e=.returned (.int .i64 q)∧Ext w1 w'):=fun w1=>by
  have h:=freely_any a (t.base == 3) t.bits N M w1 h1 h2 ha.1 ha.2 fN fM
  rwa [hq] at h
 have HR:Hid (∀ w1,Calls Tryz.prog 151 #[.int .i64 a,.agg #[.bool (t.base == 3),.int .i64 t.bits],.int .i64 N,.int .i64 M] w1 fun e w'=>e=.returned (.tuple #[.int .i64 (if y=0 then q else 0),.int .i64 y])∧Ext w1 w'):=fun w1=>by
  have h:=result_any a (t.base == 3) t.bits N M w1 h1 h2 ha.1 ha.2 fN fM
  unfold ResRet resI at h
  rwa [hq,hy] at h
 have HN:Hid (∀ w1,Calls Tryz.prog 148 #[.agg #[.bool (t.base == 3),.int .i64 t.bits],.int .i64 u.n] w1 fun e w'=>e=.returned (.int .i64 N)∧Ext w1 w'):=fun w1=>by
  have h:=bent_any (t.base == 3) t.bits u.n w1 h1 h2
  rwa [hN] at h
 have HM:Hid (∀ w1,Calls Tryz.prog 148 #[.agg #[.bool (t.base == 3),.int .i64 t.bits],.int .i64 v.n] w1 fun e w'=>e=.returned (.int .i64 M)∧Ext w1 w'):=fun w1=>by
  have h:=bent_any (t.base == 3) t.bits v.n w1 h1 h2
  rwa [hM] at h
 obtain ⟨R,hR⟩:∃ R,R=twoK ck ⟨op,a,b,t,nm⟩ u v:=⟨_,rfl⟩
 rw [← hR] at HT ⊢
 clear hN hM fN fM hq hy hR h5 ha
 unfold itA
 have B0:Hid (Blk ((((w.alloc (.cells #[.int .i64 t.base,.int .i64 t.bits,.string t.name,.bool t.opt,.bool t.err] 42)).alloc (.cells #[.int .i64 u.n,.bool u.null,.string u.err] 86)).alloc (.cells #[.int .i64 v.n,.bool v.null,.string v.err] 86)).alloc (.cells #[.int .i64 0,.bool false,.string ⟨#[]⟩] 86)) (w.heap.size + 1 + 1 + 1) 86 #[.int .i64 0,.bool false,.string ⟨#[]⟩]):=new4 w _ _ _ _ _
 have BU:Hid (Blk ((((w.alloc (.cells #[.int .i64 t.base,.int .i64 t.bits,.string t.name,.bool t.opt,.bool t.err] 42)).alloc (.cells #[.int .i64 u.n,.bool u.null,.string u.err] 86)).alloc (.cells #[.int .i64 v.n,.bool v.null,.string v.err] 86)).alloc (.cells #[.int .i64 0,.bool false,.string ⟨#[]⟩] 86)) (w.heap.size + 1) 86 #[.int .i64 u.n,.bool u.null,.string u.err]):=Blk.alloc (Blk.alloc (new2 w _ _ _) _) _
 have BV:Hid (Blk ((((w.alloc (.cells #[.int .i64 t.base,.int .i64 t.bits,.string t.name,.bool t.opt,.bool t.err] 42)).alloc (.cells #[.int .i64 u.n,.bool u.null,.string u.err] 86)).alloc (.cells #[.int .i64 v.n,.bool v.null,.string v.err] 86)).alloc (.cells #[.int .i64 0,.bool false,.string ⟨#[]⟩] 86)) (w.heap.size + 1 + 1) 86 #[.int .i64 v.n,.bool v.null,.string v.err]):=(new3 w _ _ _ _).alloc _
 go_enter Tryz.func114,Tryz.ntmps114
 go_wp2_with (first
  | (go_at_call 149
     refine (rintOfT_any _ _ _ _ _ _).mono ?_
     rintro r w1 ⟨rfl,x1⟩
     have X1:Hid (Ext w w1):=(by unfold Hid; exact exA)
     have B1:=Lib.hid (B0.out.ext x1)
     have BU1:=Lib.hid (BU.out.ext x1)
     have BV1:=Lib.hid (BV.out.ext x1)
     clear x1))
 have X2:Hid (Ext w (w1.alloc (.cells #[.bool (t.base == 3),.int .i64 t.bits] 122))):=X1.out.alloc _
 have B2:Hid (Blk (w1.alloc (.cells #[.bool (t.base == 3),.int .i64 t.bits] 122)) (w.heap.size + 1 + 1 + 1) 86 #[.int .i64 0,.bool false,.string ⟨#[]⟩]):=B1.out.alloc _
 have BU2:Hid (Blk (w1.alloc (.cells #[.bool (t.base == 3),.int .i64 t.bits] 122)) (w.heap.size + 1) 86 #[.int .i64 u.n,.bool u.null,.string u.err]):=BU1.out.alloc _
 have BV2:Hid (Blk (w1.alloc (.cells #[.bool (t.base == 3),.int .i64 t.bits] 122)) (w.heap.size + 1 + 1) 86 #[.int .i64 v.n,.bool v.null,.string v.err]):=BV1.out.alloc _
 have BI2:Hid (Blk (w1.alloc (.cells #[.bool (t.base == 3),.int .i64 t.bits] 122)) w1.heap.size 122 #[.bool (t.base == 3),.int .i64 t.bits]):=Blk.new _ _ _
 generalize w1.alloc (.cells #[.bool (t.base == 3),.int .i64 t.bits] 122)=w2 at X2 B2 BU2 BV2 BI2 ⊢
 generalize w1.heap.size=gi at BI2 ⊢
 have HD:Hid (∀ w',Ext w2 w' → w'.cell? ⟨gi,0,none⟩=some (.bool (t.base == 3))∧w'.cell? ⟨gi,1,none⟩=some (.int .i64 t.bits)∧w'.cell? ⟨w.heap.size + 1,0,none⟩=some (.int .i64 u.n)∧w'.cell? ⟨w.heap.size + 1 + 1,0,none⟩=some (.int .i64 v.n)):=fun w' xx =>
  ⟨(BI2.out.ext xx).cell 0,(BI2.out.ext xx).cell 1,(BU2.out.ext xx).cell 0,(BV2.out.ext xx).cell 0⟩
 have HC1:Hid (∀ (l:Array Bool) (w':World),Ext w2 w' → Calls Tryz.prog 148 #[.agg #[.bool (t.base == 3),.int .i64 t.bits],.int .i64 u.n] w' fun e w''=>e=.returned (.int .i64 N)∧Ext w2 w''):=fun l w' xx=>(HN.out w').mono fun e w'' h=>⟨h.1,xx.trans h.2⟩
 have HC2:Hid (∀ (l:Array Bool) (w':World),Ext w2 w' → Calls Tryz.prog 148 #[.agg #[.bool (t.base == 3),.int .i64 t.bits],.int .i64 v.n] w' fun e w''=>e=.returned (.int .i64 M)∧Ext w2 w''):=fun l w' xx=>(HM.out w').mono fun e w'' h=>⟨h.1,xx.trans h.2⟩
 have HST:∀ (i:Nat) (l:Array Bool) (w':World),Ext w2 w' ↔ Ext w2 w':=fun _ _ _=>Iff.rfl
 refine flow_begin (fun _ w'=>Ext w2 w') #[false,false,false,false,false,false,false,false,false,false] rfl (by kernel_rfl) (fun _ _ _ _ _ h=>h) ((Ext.refl _).drew) (fun HQ=>?_)
 (refine tt 0 19 rfl HQ (HST 0) ?_; try simp only [putL,List.set])
 (refine tp 1 20 rfl HQ (HST 1) ?_; try simp only [putL,List.set])
 (refine tt 2 21 rfl HQ (HST 2) ?_; try simp only [putL,List.set])
 (refine tc 3 22 rfl (by kernel_rfl) HQ (HST 3) (by rfl) (fun l w' hF=>?_) ((HC1.out)) ?_; (focus (have hq:=HD.out _ hF; go_simp; try simp only [enters_bent _ _])); try simp only [putL,List.set])
 (refine tt 4 23 rfl HQ (HST 4) ?_; try simp only [putL,List.set])
 (refine tp 5 24 rfl HQ (HST 5) ?_; try simp only [putL,List.set])
 (refine tt 6 25 rfl HQ (HST 6) ?_; try simp only [putL,List.set])
 (refine tc 7 26 rfl (by kernel_rfl) HQ (HST 7) (by rfl) (fun l w' hF=>?_) ((HC2.out)) ?_; (focus (have hq:=HD.out _ hF; go_simp; try simp only [enters_bent _ _])); try simp only [putL,List.set])
 (refine tp 8 13 rfl HQ (HST 8) ?_; try simp only [putL,List.set])
 (refine tp 9 14 rfl HQ (HST 9) ?_; try simp only [putL,List.set])
 refine flow_done (by kernel_rfl) ?_
 intro w3 x3
 have X3:Hid (Ext w w3):=X2.out.trans x3
 have B3:=Lib.hid (B2.out.ext x3)
 have i0:=(BI2.out.ext x3).cell 0
 have i1:=(BI2.out.ext x3).cell 1
 have zi:=(BI2.out.ext x3).lt
 simp only [List.getElem?_toArray,List.getElem?_cons_zero,List.getElem?_cons_succ] at i0 i1
 clear HD HC1 HC2 HST HQ x3 BI2 BU2 BV2 B2
 cases ck
 ·go_wp2_with (first
   | (go_at_call 150; refine (HF.out _).mono ?_; rintro r w4 ⟨rfl,x4⟩; have B4:=Lib.hid (B3.out.ext x4); have X4:Hid (Ext w w4):=X3.out.trans x4; clear x4)
   | ((with_reducible show wpList _ _ _ (Oper.mk none (.store 86 (.tmp 10) _) _ _ _ _ :: _) _ _)
      refine wpList_store_row rfl 86 _ _ rfl (w.heap.size + 1 + 1 + 1) rfl 86 _ (itA (nv q)) B4.out rfl rfl (itA_one _) HZ.out ?_))
  exact bodyPost_ret (results_row_tmp rfl _ _ (w.heap.size + 1 + 1 + 1) 86 (itA (nv q)) (0,0) _ rfl (B4.out.row _) Tryz.underlying86 rfl HZ.out (.int .i64 0) rfl) rfl ⟨by rw [HT.out]; rfl,X4.out.setRow (by omega) _⟩
 ·obtain ⟨q2,hq2⟩:∃ q2,q2=if y=0 then q else 0:=⟨_,rfl⟩
  rw [← hq2] at HR
  have HQ2:Hid ((if (true && y != 0)=true then ((0:Int),y) else (q,0))=(q2,y)):=by
   unfold Hid
   rw [hq2]
   by_cases e:y=0
   ·rw [if_neg (by simp [e]),if_pos e,e]
   ·rw [if_pos (by simpa using e),if_neg e]
  clear hq2
  go_wp2_with (first
   | (go_at_call 151; refine (HR.out _).mono ?_; rintro r w4 ⟨rfl,x4⟩; have B4:=Lib.hid (B3.out.ext x4); have X4:Hid (Ext w w4):=X3.out.trans x4; clear x4)
   | ((with_reducible show wpList _ _ _ (Oper.mk none (.store 86 (.tmp 10) _) _ _ _ _ :: _) _ _)
      refine wpList_store_row rfl 86 _ _ rfl (w.heap.size + 1 + 1 + 1) rfl 86 _ (itA (nv q2)) B4.out rfl rfl (itA_one _) HZ.out ?_))
  exact bodyPost_ret (results_row_tmp rfl _ _ (w.heap.size + 1 + 1 + 1) 86 (itA (nv q2)) (0,0) _ rfl (B4.out.row _) Tryz.underlying86 rfl HZ.out (.int .i64 y) rfl) rfl ⟨by rw [HT.out,HQ2.out]; rfl,X4.out.setRow (by omega) _⟩
end Go.Proofs.YtcoookehfhhhdaaGreatDoor.c
