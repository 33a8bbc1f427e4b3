/- A declaration: a constant. -/
import Derived.Test.YtmmnhbhnjiajhaaGreatDoorSUr
import Derived.Deep.MidRow
namespace Go.Proofs.YtmmnhbhnjiajhaaGreatDoor.c
open Go.RowKit
set_option linter.unusedVariables false
set_option maxRecDepth 100000
set_option maxHeartbeats 3200000
set_option linter.unusedSimpArgs false
def putA:Array Value → Nat → List Value → Array Value
 | cs,_,[]=>cs
 | cs,o,v :: r=>putA (cs.setIfInBounds o v) (o + 1) r
section
variable {C:Cx} {w:World} {b g:Nat} {t:TypeId} {zv:Array Value}
theorem Rd.sets (hm:C.m < w.heap.size):∀ (vs:List Value) (o:Nat) (cs:Array Value) (wr:World),Rd C w t zv g cs b wr → Rd C w t zv g (putA cs o vs) b (wr.setCells g o vs)
 | [],_,_,_,h=>h
 | v :: r,o,cs,wr,h=>Rd.sets hm r (o + 1) _ _ (h.set_ hm o v)
theorem setCells_heap {g:Nat}:∀ (vs:List Value) (o:Nat) (w:World) (i:Nat),i ≠ g → (w.setCells g o vs).heap[i]?=w.heap[i]?
 | [],_,_,_,_=>rfl
 | v :: r,o,w,i,h=>(setCells_heap r (o + 1) _ i h).trans (Below.heap_setCell _ _ _ _ h)
theorem Rd.thereAt {cs:Array Value} {wr:World} (h:Rd C w t zv g cs b wr) (o n:Nat) (ho:o + n ≤ cs.size):wr.there g o n:=fun j hj=>⟨by rw [h.box.cell,Array.getElem?_eq_getElem (by omega)]; rfl,h.box.frozen _⟩
end
def deA (fn:Bool) (nm:ByteArray) (ps:Value) (ty:Ty) (ex:Array Value) (body:Value):Array Value:=#[.bool fn,.string nm,ps,.int .i64 ty.base,.int .i64 ty.bits,.string ty.name,.bool ty.opt,.bool ty.err] ++ ex ++ #[body]
def deL (fn:Bool) (nm:ByteArray) (ps:Value) (ty:Ty) (body:Value):Array Value:=#[.bool fn,.string nm,ps,.int .i64 ty.base,.int .i64 ty.bits,.string ty.name,.bool ty.opt,.bool ty.err,.int .i64 0,.int .i64 0,.int .i64 0,.string ⟨#[]⟩,.bool false,.bool false,.string ⟨#[]⟩,.int .i64 0,.slice none 0 0,.slice none 0 0,body]
def zDe:Array Value:=#[.bool false,.string ⟨#[]⟩,.slice none 0 0,.int .i64 0,.int .i64 0,.string ⟨#[]⟩,.bool false,.bool false,.int .i64 0,.int .i64 0,.int .i64 0,.string ⟨#[]⟩,.bool false,.bool false,.string ⟨#[]⟩,.int .i64 0,.slice none 0 0,.slice none 0 0,.slice none 0 0]
theorem deA_size {fn:Bool} {nm:ByteArray} {ps:Value} {ty:Ty} {ex:Array Value} {body:Value} (h:ex.size=10):(deA fn nm ps ty ex body).size=19:=by simp [deA,h]
theorem deA_put {fn:Bool} {nm:ByteArray} {ps:Value} {ty:Ty} {cs:Array Value} {body:Value} (h:cs.size=10):putA (deL fn nm ps ty body) 8 cs.toList=deA fn nm ps ty cs body:=by
 obtain ⟨a,b,c,d,e,f,g,i,j,k,rfl⟩:=arr10 h
 kernel_rfl
theorem deA_one {fn:Bool} {nm:ByteArray} {ps:Value} {ty:Ty} {cs:Array Value} {body:Value} (h1:ps.oneCell'=true) (h2:∀ u ∈ cs.toList,u.oneCell'=true) (h3:body.oneCell'=true):∀ u ∈ (deA fn nm ps ty cs body).toList,u.oneCell'=true:=by
 intro u hu
 simp only [deA,Array.toList_append,List.mem_append,List.mem_cons,List.not_mem_nil,or_false] at hu
 rcases hu with ((rfl | rfl | rfl | rfl | rfl | rfl | rfl | rfl) | hu) | rfl
 all_goals first | rfl | assumption | exact h2 u hu
theorem nv_de {V:Vw} {fn:Bool} {nm:ByteArray} {ps x z:Nd} {vp vb:Value} {ty:Ty} {cs:Array Value} (h1:Sl V vp ps 4) (hx:Nv V 0 x cs) (h2:Sl V vb z 1):Nv V 5 (.de fn nm ps ty x z .nil) (deA fn nm vp ty cs vb) :=
 ⟨⟨rfl,vp,cs.toList,vb,[],by simp [deA],h1,hx.2,hx.1,h2,rfl⟩,rfl⟩
section
variable {C:Cx} {w wr:World} {b g:Nat} {t:TypeId} {zv:Array Value} {fn:Bool} {nm:ByteArray} {ps body:Value} {ty:Ty}
theorem Rd.typD (h:Rd C w t zv g (deL fn nm ps ty body) b wr) (hm:C.m < w.heap.size) (ty:Ty) :
  Rd C w t zv g (deL fn nm ps ty body) b (((((wr.setCell ⟨g,3,none⟩ (.int .i64 ty.base)).setCell ⟨g,4,none⟩ (.int .i64 ty.bits)).setCell ⟨g,5,none⟩ (.string ty.name)).setCell ⟨g,6,none⟩ (.bool ty.opt)).setCell ⟨g,7,none⟩ (.bool ty.err)) :=
 ((((h.set_ hm 3 (.int .i64 ty.base)).set_ hm 4 (.int .i64 ty.bits)).set_ hm 5 (.string ty.name)).set_ hm 6 (.bool ty.opt)).set_ hm 7 (.bool ty.err)
theorem Rd.fiveD (h:Rd C w t zv g (deL fn nm ps ty body) b wr):(∀ i,wr.frozen? ⟨g,i,none⟩=false)∧wr.cell? ⟨g,3,none⟩=some (.int .i64 ty.base)∧wr.cell? ⟨g,4,none⟩=some (.int .i64 ty.bits)∧wr.cell? ⟨g,5,none⟩=some (.string ty.name)∧wr.cell? ⟨g,6,none⟩=some (.bool ty.opt)∧wr.cell? ⟨g,7,none⟩=some (.bool ty.err) :=
 ⟨h.box.frozen,h.box.cell 3,h.box.cell 4,h.box.cell 5,h.box.cell 6,h.box.cell 7⟩
end
theorem built_de0 (nm:ByteArray):Tryz.prog.built 38 [(1,.string nm)]=some (deL false nm sl0 tZ sl0):=by kernel_rfl
theorem built_de1 (nm:ByteArray):Tryz.prog.built 38 [(0,.bool true),(1,.string nm)]=some (deL true nm sl0 tZ sl0):=by kernel_rfl
theorem deL_one {fn:Bool} {nm:ByteArray} {ps:Value} {ty:Ty} {body:Value} (h1:ps.oneCell'=true) (h3:body.oneCell'=true):∀ u ∈ (deL fn nm ps ty body).toList,u.oneCell'=true:=by
 intro u hu
 simp only [deL,List.mem_cons,List.not_mem_nil,or_false] at hu
 rcases hu with rfl | rfl | rfl | rfl | rfl | rfl | rfl | rfl | rfl | rfl | rfl | rfl | rfl | rfl | rfl | rfl | rfl | rfl | rfl
 all_goals first | rfl | assumption
theorem deL_size {fn:Bool} {nm:ByteArray} {ps:Value} {ty:Ty} {body:Value}:(deL fn nm ps ty body).size=19:=by kernel_rfl
theorem zDe_size:zDe.size=19:=by kernel_rfl
theorem Rd.ofRow {C:Cx} {w wr:World} {b:Nat} {t:TypeId} {zv:Array Value} (h:Rx C w t zv b wr) (hm:C.m < w.heap.size) (zs cs:Array Value):Rd C w t zv wr.heap.size cs b ((wr.alloc (.cells zs t)).setRow wr.heap.size cs) :=
 (Rd.init h zs).row hm cs
theorem nameW {P:World → Prop} {w:World} (h:∀ w2,w=w2 → P w2):P w:=h w rfl
theorem store_ex {C:Cx} {w w7:World} {b g z:Nat} {fn:Bool} {nm:ByteArray} {ps body:Value} {ty:Ty} {x:Nd} {cs:Array Value} {ops:Array Oper} {rest:List Oper} {o:Oper} {a:Act} {Q:Exit → Act → World → Prop} (hgd:o.guard=none) (p q:Operand) (ho:o.op=.store 36 p q)
  (hp:a.eval p=.pointer (some ⟨g,8,none⟩)) (hq:a.eval q=.agg cs) (D:Rd C w 38 zDe g (deL fn nm ps ty body) b w7) (hm:C.m < w.heap.size) (hnv:Nv (vp (z ≤ ·) w7) 0 x cs) (hz:g < z)
  (h:∀ w8,Rd C w 38 zDe g (deA fn nm ps ty cs body) b w8 → Nv (vp (g < ·) w8) 0 x cs → wpList Tryz.prog ops Q rest (a.put o.dst undef) w8):wpList Tryz.prog ops Q (o :: rest) a w7:=by
 have HX:(Tryz.prog.info? 36).map (·.size)=some 10:=by kernel_rfl
 have hs:cs.size=10:=hnv.size
 have hth:w7.there g 8 cs.size:=D.thereAt 8 cs.size (by rw [hs]; exact (by decide:8 + 10 ≤ 19))
 have h1c:cs.all (·.oneCell')=true:=by have:=all_oneCell_toArray hnv.one; rwa [Array.toArray_toList] at this
 refine wpList_store_mid hgd _ _ _ ho g 8 cs hp hq hth (by rw [hs]; exact HX) h1c ?_
 have d8:=Rd.sets hm cs.toList 8 _ _ D
 rw [deA_put hs] at d8
 exact h _ d8 (hnv.mono (vp_le fun i hi _=>⟨Nat.lt_of_lt_of_le hz hi,setCells_heap _ _ _ _ (Nat.ne_of_gt (Nat.lt_of_lt_of_le hz hi))⟩))
noncomputable def cdS (L:List Tok) (a:Nat):Option Rs :=
 nam L a (wnt L (a + 1) ⟨#[58]⟩ (thnT (typS L (a + 2) false false false true false false) fun t b=>wnt L b ⟨#[61]⟩ (thn (gram L (.lvl 0) (b + 1)) fun x c=>wnt L c ⟨#[59]⟩ (some (.ok (.de false (tx L a) .nil t x .nil .nil) (c + 1))))))
theorem decl_const {C:Cx} {a:Nat} {w:World} (h:PS C a w) (hx:tx C.L a=⟨#[99,111,110,115,116]⟩):Calls Tryz.prog 64 #[Pp C] w (Out C w 5 (cdS C.L (a + 1))):=by
 have HZ:Hid ((Tryz.prog.info? 38).map (·.size)=some 19):=by unfold Hid; kernel_rfl
 have HX:Hid ((Tryz.prog.info? 36).map (·.size)=some 10):=by unfold Hid; kernel_rfl
 have hlt:=h.lt
 have R0:Hid (Rx C w 38 zDe a (w.alloc (.cells zDe 38))):=Rx.init h _ _
 generalize hr0:cdS C.L (a + 1)=r0
 have E0:=Lib.hid hr0.symm
 clear h hr0
 go_enter Tryz.func64,Tryz.ntmps64
 go_upto_region 5 with (first
  | (go_at_call 113; refine (next_any R0.out.ps ⟨#[99,111,110,115,116]⟩ (by decide)).mono ?_; rintro r w1 (⟨_,rfl,m1⟩ | ⟨hq,rfl,m1⟩); rotate_left; exact absurd hx hq; have R1:=Lib.hid (R0.out.to m1 hlt))
  | (go_at_call 114; refine (name_any R1.out.ps).mono ?_; rintro r w2 (⟨h2,rfl,m2⟩ | ⟨h2,rfl,m2⟩) <;> (have R2:=Lib.hid (R1.out.to m2 hlt)))
  | ((with_reducible show wpList _ _ _ (Oper.mk (some 9) (.build _ _) _ _ _ _ :: _) _ _); refine wpList_bld rfl _ _ rfl _ rfl (built_de0 _) ?_)
  | ((with_reducible show wpList _ _ _ (Oper.mk none (.store 38 (.tmp 3) (.tmp 9)) _ _ _ _ :: _) _ _); refine wpList_store_row rfl _ _ _ rfl w2.heap.size rfl 38 zDe (deL false (tx C.L (a + 1)) sl0 tZ sl0) (Blk.new _ _ zDe) rfl (deL_size.trans zDe_size.symm) (deL_one rfl rfl) (by rw [deL_size]; exact HZ.out) ?_; refine nameW fun w2' hw2=>?_; have D2:Hid (Rd C w 38 zDe w2.heap.size (deL false (tx C.L (a + 1)) sl0 tZ sl0) (a + 2) w2'):=(by rw [← hw2]; exact Rd.ofRow R2.out hlt _ _); clear hw2)
  | ((with_reducible show Calls _ _ #[_,.string ⟨#[58]⟩] _ _)
     have E2:=Lib.hid (E0.out.trans (if_pos h2))
     refine (want_any D2.out.ps ⟨#[58]⟩ (by decide)).mono ?_
     rintro r w3 (⟨h3,rfl,m3⟩ | ⟨h3,rfl,m3⟩) <;> (have D3:=Lib.hid (D2.out.to m3 hlt)) <;> (try have E3:=Lib.hid (E2.out.trans (if_pos h3))))
  | (go_at_call 116; refine (typ_dc1 D3.out.ps).mono ?_; rintro r w4 (⟨ty,b4,ht,rfl,m4⟩ | ⟨b4,ht,rfl,m4⟩) <;> (have D4:=Lib.hid (D3.out.to m4 hlt)) <;> (obtain ⟨ff,f1,f2,f3,f4,f5⟩:=Rd.fiveD D4.out)))
 rotate_left
 ·exact And.intro rfl (fin_bad D4.out.mv (E3.out.trans (by rw [ht.out]; rfl)))
 ·exact And.intro rfl (fin_bad D3.out.mv (E2.out.trans (if_neg h3)))
 ·exact And.intro rfl (fin_bad R2.out.mv (E0.out.trans (if_neg (by rw [h2]; exact Bool.false_ne_true))))
 have D5:=Lib.hid (Rd.typD D4.out hlt ty)
 have E4:Hid (r0=wnt C.L b4 ⟨#[61]⟩ (thn (gram C.L (.lvl 0) (b4 + 1)) fun x c=>wnt C.L c ⟨#[59]⟩ (some (.ok (.de false (tx C.L (a + 1)) .nil ty x .nil .nil) (c + 1))))):=E3.out.trans (by rw [ht.out]; rfl)
 generalize tx C.L (a + 1)=nm at D5 E4 ⊢
 obtain ⟨w5,hw5⟩:∃ w5,(((((w4.setCell ⟨w2.heap.size,3,none⟩ (.int .i64 ty.base)).setCell ⟨w2.heap.size,4,none⟩ (.int .i64 ty.bits)).setCell ⟨w2.heap.size,5,none⟩ (.string ty.name)).setCell ⟨w2.heap.size,6,none⟩ (.bool ty.opt)).setCell ⟨w2.heap.size,7,none⟩ (.bool ty.err))=w5:=⟨_,rfl⟩
 rw [hw5] at D5 ⊢
 clear hw5 D4 D3 D2 R2 R1 R0 E0 E2 E3 ff f1 f2 f3 f4 f5 m1 m2 m3 m4 ht
 generalize w2.heap.size=g at D5 ⊢
 go_wp2_with (first
  | ((with_reducible show Calls _ _ #[_,.string ⟨#[61]⟩] _ _)
     refine (want_any D5.out.ps ⟨#[61]⟩ (by decide)).mono ?_
     rintro r w6 (⟨h6,rfl,m6⟩ | ⟨h6,rfl,m6⟩) <;> (have D6:=Lib.hid (D5.out.to m6 hlt)))
  | (go_at_call 118
     refine ((all_any C (b4 + 1)).ex _ D6.out.ps).mono ?_
     rintro r w7 (⟨x,c,cs,hg7,rfl,hnv,m7⟩ | ⟨c,hg7,rfl,m7⟩) <;> (have D7:=Lib.hid (D6.out.to m7 hlt)) <;> (have hz7:=D6.out.lt))
  | ((with_reducible show wpList _ _ _ (Oper.mk none (.store 36 (.tmp 20) _) _ _ _ _ :: _) _ _)
     refine store_ex rfl _ _ rfl rfl rfl D7.out hlt hnv hz7 ?_
     intro w8 d8 n8
     have D8:=Lib.hid d8
     have N8:=Lib.hid n8
     have hs:cs.size=10:=hnv.size
     have hg0:=d8.hg
     clear d8 n8)
  | ((with_reducible show Calls _ _ #[_,.string ⟨#[59]⟩] _ _)
     refine (want_any D8.out.ps ⟨#[59]⟩ (by decide)).mono ?_
     rintro r w9 (⟨h9,rfl,m9⟩ | ⟨h9,rfl,m9⟩) <;> (have D9:=Lib.hid (D8.out.to m9 hlt)))
  | ((with_reducible show wpList _ _ _ (Oper.mk (some 23) (.load 38 (.tmp 3)) _ _ _ _ :: _) _ _); refine wpList_ldb rfl _ _ rfl _ _ (deA false nm sl0 ty cs sl0) rfl D9.out.box _ Tryz.underlying38 rfl (by rw [deA_size hs]; exact HZ.out) ?_)
  | ((with_reducible show wpList _ _ _ (Oper.mk none (.store 38 (.tmp 2) _) _ _ _ _ :: _) _ _); refine wpList_store_row rfl _ _ _ rfl w.heap.size rfl 38 zDe (deA false nm sl0 ty cs sl0) D9.out.res rfl ((deA_size hs).trans zDe_size.symm) (deA_one rfl N8.out.one rfl) (by rw [deA_size hs]; exact HZ.out) ?_))
 ·refine bodyPost_ret (results_cell_row rfl _ _ w.heap.size _ (deA false nm sl0 ty cs sl0) (0,0) _ rfl (D9.out.res.row _) Tryz.underlying38 rfl (by rw [deA_size hs]; exact HZ.out)) rfl ?_
  exact D9.out.fin hlt (nv_de (Sl.nil _ none 0 4) (N8.out.px m9.px (q:=(g < ·)) fun i hi _=>⟨by omega,hi⟩) (Sl.nil _ none 0 1)) (fun i hi=>by omega) (E4.out.trans ((if_pos h6).trans ((thn_ok hg7.out).trans (if_pos h9))))
 ·exact And.intro rfl (fin_bad D9.out.mv (E4.out.trans ((if_pos h6).trans ((thn_ok hg7.out).trans (if_neg h9)))))
 ·exact And.intro rfl (fin_bad D7.out.mv (E4.out.trans ((if_pos h6).trans (thn_bad hg7.out))))
 ·exact And.intro rfl (fin_bad D6.out.mv (E4.out.trans (if_neg h6)))
end Go.Proofs.YtmmnhbhnjiajhaaGreatDoor.c
