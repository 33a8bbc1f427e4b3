/- Which programs are right, as a plain function; what the grammar reads is right. No condition. Which fields an operation, a statement, a parameter has: contracts of tree.shapeOf, forms, isDeclared, isParam. The table strings.asciiSpace holds what its text lays. Whether a list of nodes has one of a kind: contracts of slices.IndexFunc and slices.ContainsFunc, given the contract of the function that is passed. Condition: it answers as a plain function does. Which expressions, statements and blocks are right: contracts for lists of fewer than so many nodes; the function that is passed to slices.ContainsFunc. The table strings.asciiSpace holds what its text lays. Which expressions are right: one step of the induction. The table strings.asciiSpace holds what its text lays. Which statements are right: one step of the induction. The table strings.asciiSpace holds what its text lays. Which declarations and programs are right: contracts of tree.isDecl, tree.Validate. The table strings.asciiSpace holds what its text lays. Laws for a region that draws its order, where memory is only added to: what is read is read first. No condition. The reference's equality of declarations. No condition. -/
import Derived.Test.YtmmnhbhnjiajhaaGreatDoorSVd
import Derived.Deep.LoopGhost
import Derived.Deep.CutRange
import Derived.Test.YtmmnhbhnjiajhaaGreatDoorSXc
namespace Go.Proofs.YtmmnhbhnjiajhaaGreatDoor.c
open Go.RowKit
set_option linter.unusedVariables false
set_option maxRecDepth 100000
set_option maxHeartbeats 12800000
set_option linter.unusedSimpArgs false
structure Sh where
 args:Int
 kind:Nat
 name:Bool
 num:Bool
 body:Bool
structure Fo where
 name:Bool
 kind:Bool
 least:Int
 most:Int
 lb:Int
 mb:Int
 cases:Bool
section
variable {L:List Tok}
end
theorem Elems.pa1 {V:Vw} {x:Nd} {xs:List Value} (h:Elems V x 4 xs) (hl:0 < x.len):∃ nm t kn r,x=.pa nm t kn r:=by
 cases x with
 | nil=>simp [Nd.len] at hl
 | pa nm t kn r=>exact ⟨_,_,_,_,rfl⟩
 | ex=>exact absurd h.1 (by decide)
 | st=>exact absurd h.1 (by decide)
 | bl=>exact absurd h.1 (by decide)
 | ca=>exact absurd h.1 (by decide)
 | de=>exact absurd h.1 (by decide)
theorem nv_paI {V:Vw} {nm:ByteArray} {ty:Ty} {kn:Bool} {cs:Array Value} (h:Nv V 4 (.pa nm ty kn .nil) cs):cs=#[.string nm,.int .i64 ty.base,.int .i64 ty.bits,.string ty.name,.bool ty.opt,.bool ty.err,.bool kn]:=by
 obtain ⟨⟨_,r,e,h3⟩,_⟩:=h
 obtain rfl:r=[]:=h3
 rw [← Array.toArray_toList (xs:=cs),e]; rfl
theorem Nv.de1 {V:Vw} {x:Nd} {cs:Array Value} (h:Nv V 5 x cs):∃ fn nm ps ty op ty2 nm2 k ea eb b Ap cp A1 c1 A2 c2 Ab cb,x=.de fn nm ps ty (.ex op ty2 nm2 k ea eb .nil) b .nil∧cs=#[.bool fn,.string nm,.slice Ap ps.len cp,.int .i64 ty.base,.int .i64 ty.bits,.string ty.name,.bool ty.opt,.bool ty.err,.int .i64 op,.int .i64 ty2.base,.int .i64 ty2.bits,.string ty2.name,.bool ty2.opt,.bool ty2.err,.string nm2,.int .i64 k,.slice A1 ea.len c1,.slice A2 eb.len c2,.slice Ab b.len cb]∧Sl V (.slice Ap ps.len cp) ps 4∧Nv V 0 (.ex op ty2 nm2 k ea eb .nil) #[.int .i64 op,.int .i64 ty2.base,.int .i64 ty2.bits,.string ty2.name,.bool ty2.opt,.bool ty2.err,.string nm2,.int .i64 k,.slice A1 ea.len c1,.slice A2 eb.len c2]∧Sl V (.slice Ab b.len cb) b 1:=by
 obtain ⟨fn,nm,ps,ty,val,b,r,rfl⟩:=h.1.de1 (by rw [h.2]; decide)
 obtain rfl:r=.nil:=tl_one h.2
 obtain ⟨vps,ys,vb,rfl,hps,hval,hb⟩:=nv_deI h
 obtain ⟨Ap,cp,rfl,_⟩:=hps.lp
 obtain ⟨Ab,cb,rfl,_⟩:=hb.lp
 obtain rfl | ⟨op,ty2,nm2,k,ea,eb,r,rfl⟩:=hval.1.ex
 ·cases hval.2
 obtain rfl:r=.nil:=tl_one hval.2
 obtain ⟨va,vc,rfl,ha,hc⟩:=nv_exI hval
 obtain ⟨A1,c1,rfl,_⟩:=ha.lp
 obtain ⟨A2,c2,rfl,_⟩:=hc.lp
 exact ⟨fn,nm,ps,ty,op,ty2,nm2,k,ea,eb,b,Ap,cp,A1,c1,A2,c2,Ab,cb,rfl,rfl,hps,hval,hb⟩
section
variable {P:Program} {ops:Array Oper} {Q:Exit → Act → World → Prop} {md:Region.Mode} {fuel:Nat} {listed:Array Bool} {a:Act} {w w':World} {op:Op} {ty:TypeId} {ps:String} {af:Array Edge} {g:Option (Nat × Bool)} {K:Act → World → Prop} {S:World → Prop}
theorem eh_begin {id:Nat} (l0:Array Bool) (S:World → Prop) (hl:Array.replicate ops.size false=l0) (hm:P.follows .mixedOrders=true) (hQ:Calm Q) (h:Calm Q → wpAnyH P .any ops Q S ops.size l0 a w.drew):(Code.region id ops true).wp P Q a w:=by
 subst hl
 exact wp_region_held hm (h hQ)
theorem eh_take (i t:Nat) {v:Value} (hi:ops[i]?=some ⟨some t,op,ty,ps,af,g⟩) (hQ:Calm Q) (hS:S w) (hv:∀ w',S w' → (execOp a.eval ⟨some t,op,ty,ps,af,g⟩).run P w'=.ok (.value v) w') (h:wpAnyH P md ops Q S fuel (listed.setIfInBounds i true) (a.put (some t) v) w) (hok:okT md ops listed i=true:=by kernel_rfl)
  (hw:Region.wanted ⟨some t,op,ty,ps,af,g⟩ (yielded ops a.tmps)=true:=by rfl):wpAnyH P md ops Q S (fuel + 1) listed a w:=by
 obtain ⟨h1,h2,h3⟩:=okT_spec hok
 exact wpAnyH_take hi h1 h2 h3 (fun c a w=>hQ c a _ _ w) (.inl ⟨hw,hv⟩) hS h
theorem eh_br {l:List Nat} (hl:l ≠ []) (h:∀ j ∈ l,Go.wpOp P ops Q j (fun a' w'=>S w'∧wpAnyH P md ops Q S fuel (listed.setIfInBounds j true) a' w') a w) (hre:(Region.ready md ops listed == l)=true:=by kernel_rfl):wpAnyH P md ops Q S (fuel + 1) listed a w :=
 wpAnyH_all (beq_iff_eq.1 hre) hl h
theorem eh_end (h:Q .normal a w) (hre:(Region.ready md ops listed).isEmpty=true:=by kernel_rfl):wpAnyH P md ops Q S 0 listed a w:=wpAnyH_done (List.isEmpty_iff.1 hre) h 0
end
theorem exec_ldr {o:Oper} {a:Act} {w:World} {ty:TypeId} {x:Operand} (ho:o.op=.load ty x) {b off:Nat} (hx:a.eval x=.pointer (some ⟨b,off,none⟩)) {cs:Array Value} (hc:w.rangeAt b off cs.toList) {d:TypeDesc} (hu:Tryz.prog.underlying ty=some d) (hd:d.isRow=true) (hi:(Tryz.prog.info? ty).map (·.size)=some cs.size):(execOp a.eval o).run Tryz.prog w=.ok (.value (.agg cs)) w:=by
 have hi2:(Tryz.prog.info? ty).map (·.size)=some cs.toList.length:=by rw [Array.length_toList]; exact hi
 have h:=run_loadVar_mid (P:=Tryz.prog) w b off ty cs.toList d hc hu hd hi2
 unfold execOp
 simp only [ho,hx,Instr.loadAt,Instr.sureAddr,Sem.run_bind,Sem.run_pure,Result.andThen_ok,h,Array.toArray_toList]
theorem Blk.range {w:World} {g:Nat} {t:TypeId} {cs:Array Value} (h:Blk w g t cs):w.rangeAt g 0 cs.toList:=fun j v hv=>by
 show w.cell? ⟨g,0 + j,none⟩=some v
 rw [Nat.zero_add,h.cell]
 simpa using hv
def paB (m3:ByteArray) (y3:Ty) (z3:Bool) (m4:ByteArray) (y4:Ty) (z4:Bool):Bool:=m3.toList == m4.toList && (tyB y3 y4 && z3 == z4)
theorem run_pa_neq (m3 m4:ByteArray) (y3 y4:Ty) (z3 z4:Bool) (w:World):(binOp .neq 40 (.agg #[.string m3,.int .i64 y3.base,.int .i64 y3.bits,.string y3.name,.bool y3.opt,.bool y3.err,.bool z3]) (.agg #[.string m4,.int .i64 y4.base,.int .i64 y4.bits,.string y4.name,.bool y4.opt,.bool y4.err,.bool z4])).run Tryz.prog w=.ok (.bool (!paB m3 y3 z3 m4 y4 z4)) w:=by
 obtain ⟨a,b,n,o,e⟩:=y3
 obtain ⟨a2,b2,n2,o2,e2⟩:=y4
 go_simp
 unfold paB tyB
 by_cases h0:m3.toList=m4.toList
 ·by_cases h1:a=a2
  ·by_cases h2:b=b2
   ·by_cases h3:n.toList=n2.toList
    ·cases o <;> cases o2 <;> cases e <;> cases e2 <;> cases z3 <;> cases z4 <;> simp [h0,h1,h2,h3]
    ·simp [h0,h1,h2,h3]
   ·simp [h0,h1,h2]
  ·simp [h0,h1]
 ·simp [h0]
theorem Lp.pa1 {V:Vw} {A:Option Addr} {n i:Nat} {r:Nd} (l:Lp V A n 4 i r) (h:i < n):∃ m t k tl,r=.pa m t k tl:=by
 obtain ⟨h1,xs,_,_,he⟩:=l
 exact he.pa1 (by omega)
theorem sameDecl_any (x y:Nd) (hlw:LW x) (w:World) (cs ds:Array Value) (p q:Nat → Prop) (hnx:Nv (vp p w) 5 x cs) (hny:Nv (vp q w) 5 y ds):Calls Tryz.prog 36 #[.agg cs,.agg ds] w fun e w'=>e=.returned (.bool (eqN x y))∧Ext w w':=by
 obtain ⟨f1,n1,p1,t1,o1,y1,m1,k1,a1,b1,d1,P1,cp1,A1,ca1,B1,cb1,D1,cd1,rfl,rfl,hp1,hv1,hd1⟩:=hnx.de1
 obtain ⟨f2,n2,p2,t2,o2,y2,m2,k2,a2,b2,d2,P2,cp2,A2,ca2,B2,cb2,D2,cd2,rfl,rfl,hp2,hv2,hd2⟩:=hny.de1
 obtain ⟨iE,_,iT⟩:=eq_all ((Nd.ex o1 y1 m1 k1 a1 b1 .nil).sz + d1.sz + 1)
 have hz:(Nd.ex o1 y1 m1 k1 a1 b1 .nil).sz < (Nd.ex o1 y1 m1 k1 a1 b1 .nil).sz + d1.sz + 1∧d1.sz < (Nd.ex o1 y1 m1 k1 a1 b1 .nil).sz + d1.sz + 1∧p1.len ≤ 4611686018427387904:=by have:=(show LW p1 from hlw.2.1).len; omega
 have HV:Hid (∀ w1,Ext w w1 → Calls Tryz.prog 73 #[.agg #[.int .i64 o1,.int .i64 y1.base,.int .i64 y1.bits,.string y1.name,.bool y1.opt,.bool y1.err,.string m1,.int .i64 k1,.slice A1 a1.len ca1,.slice B1 b1.len cb1],.agg #[.int .i64 o2,.int .i64 y2.base,.int .i64 y2.bits,.string y2.name,.bool y2.opt,.bool y2.err,.string m2,.int .i64 k2,.slice A2 a2.len ca2,.slice B2 b2.len cb2]] w1 fun e w'=>e=.returned (.bool (eqN (.ex o1 y1 m1 k1 a1 b1 .nil) (.ex o2 y2 m2 k2 a2 b2 .nil)))∧Ext w1 w'):=fun w1 X=>iE _ _ hz.1 hlw.2.2.1 rfl rfl w1 _ _ p q (hv1.mono (vp_ext X)) (hv2.mono (vp_ext X))
 have HD:Hid (∀ w1,Ext w w1 → Calls Tryz.prog 74 #[.slice D1 d1.len cd1,.slice D2 d2.len cd2] w1 fun e w'=>e=.returned (.bool (eqN d1 d2))∧Ext w1 w'):=fun w1 X=>iT _ _ hz.2.1 hlw.2.2.2.1 w1 _ _ p q (hd1.mono (vp_ext X)) (hd2.mono (vp_ext X))
 obtain ⟨P1',cp1',e1,lp1⟩:=hp1.lp
 cases e1
 obtain ⟨P2',cp2',e2,lp2⟩:=hp2.lp
 cases e2
 obtain ⟨R,hR⟩:∃ R,eqN (.de f1 n1 p1 t1 (.ex o1 y1 m1 k1 a1 b1 .nil) d1 .nil) (.de f2 n2 p2 t2 (.ex o2 y2 m2 k2 a2 b2 .nil) d2 .nil)=R:=⟨_,rfl⟩
 rw [hR]
 have HR:Hid ((f1 == f2 && (n1.toList == n2.toList && (eqN p1 p2 && (tyB t1 t2 && (eqN (.ex o1 y1 m1 k1 a1 b1 .nil) (.ex o2 y2 m2 k2 a2 b2 .nil) && eqN d1 d2)))))=R):=(Bool.and_true _).symm.trans hR
 generalize eqN (.ex o1 y1 m1 k1 a1 b1 .nil) (.ex o2 y2 m2 k2 a2 b2 .nil)=ev at HV HR
 generalize eqN d1 d2=ed at HD HR
 have LP1:=Lib.hid lp1
 have LP2:=Lib.hid lp2
 have HN:=Lib.hid hz.2.2
 obtain ⟨h,hh⟩:∃ h,(f1 == f2 && (n1.toList == n2.toList && (p1.len == p2.len && tyB t1 t2)))=h:=⟨_,rfl⟩
 have HH:=Lib.hid hh
 have W0:Hid (Ext w ((w.alloc (.cells #[.bool f1,.string n1,.slice P1 p1.len cp1,.int .i64 t1.base,.int .i64 t1.bits,.string t1.name,.bool t1.opt,.bool t1.err,.int .i64 o1,.int .i64 y1.base,.int .i64 y1.bits,.string y1.name,.bool y1.opt,.bool y1.err,.string m1,.int .i64 k1,.slice A1 a1.len ca1,.slice B1 b1.len cb1,.slice D1 d1.len cd1] 38)).alloc (.cells #[.bool f2,.string n2,.slice P2 p2.len cp2,.int .i64 t2.base,.int .i64 t2.bits,.string t2.name,.bool t2.opt,.bool t2.err,.int .i64 o2,.int .i64 y2.base,.int .i64 y2.bits,.string y2.name,.bool y2.opt,.bool y2.err,.string m2,.int .i64 k2,.slice A2 a2.len ca2,.slice B2 b2.len cb2,.slice D2 d2.len cd2] 38))):=((Ext.refl w).alloc _).alloc _
 have K1:Hid (Blk ((w.alloc (.cells #[.bool f1,.string n1,.slice P1 p1.len cp1,.int .i64 t1.base,.int .i64 t1.bits,.string t1.name,.bool t1.opt,.bool t1.err,.int .i64 o1,.int .i64 y1.base,.int .i64 y1.bits,.string y1.name,.bool y1.opt,.bool y1.err,.string m1,.int .i64 k1,.slice A1 a1.len ca1,.slice B1 b1.len cb1,.slice D1 d1.len cd1] 38)).alloc (.cells #[.bool f2,.string n2,.slice P2 p2.len cp2,.int .i64 t2.base,.int .i64 t2.bits,.string t2.name,.bool t2.opt,.bool t2.err,.int .i64 o2,.int .i64 y2.base,.int .i64 y2.bits,.string y2.name,.bool y2.opt,.bool y2.err,.string m2,.int .i64 k2,.slice A2 a2.len ca2,.slice B2 b2.len cb2,.slice D2 d2.len cd2] 38)) w.heap.size 38 #[.bool f1,.string n1,.slice P1 p1.len cp1,.int .i64 t1.base,.int .i64 t1.bits,.string t1.name,.bool t1.opt,.bool t1.err,.int .i64 o1,.int .i64 y1.base,.int .i64 y1.bits,.string y1.name,.bool y1.opt,.bool y1.err,.string m1,.int .i64 k1,.slice A1 a1.len ca1,.slice B1 b1.len cb1,.slice D1 d1.len cd1]):=(Blk.new w _ _).alloc _
 have K2:Hid (Blk ((w.alloc (.cells #[.bool f1,.string n1,.slice P1 p1.len cp1,.int .i64 t1.base,.int .i64 t1.bits,.string t1.name,.bool t1.opt,.bool t1.err,.int .i64 o1,.int .i64 y1.base,.int .i64 y1.bits,.string y1.name,.bool y1.opt,.bool y1.err,.string m1,.int .i64 k1,.slice A1 a1.len ca1,.slice B1 b1.len cb1,.slice D1 d1.len cd1] 38)).alloc (.cells #[.bool f2,.string n2,.slice P2 p2.len cp2,.int .i64 t2.base,.int .i64 t2.bits,.string t2.name,.bool t2.opt,.bool t2.err,.int .i64 o2,.int .i64 y2.base,.int .i64 y2.bits,.string y2.name,.bool y2.opt,.bool y2.err,.string m2,.int .i64 k2,.slice A2 a2.len ca2,.slice B2 b2.len cb2,.slice D2 d2.len cd2] 38)) (w.heap.size + 1) 38 #[.bool f2,.string n2,.slice P2 p2.len cp2,.int .i64 t2.base,.int .i64 t2.bits,.string t2.name,.bool t2.opt,.bool t2.err,.int .i64 o2,.int .i64 y2.base,.int .i64 y2.bits,.string y2.name,.bool y2.opt,.bool y2.err,.string m2,.int .i64 k2,.slice A2 a2.len ca2,.slice B2 b2.len cb2,.slice D2 d2.len cd2]):=blk_new2 _ _ _ _
 clear hnx hny hp1 hv1 hd1 hp2 hv2 hd2 lp1 lp2 hlw hR hz iE iT hh
 go_enter Tryz.func36,Tryz.ntmps36
 go_upto_region 1 with fail
 generalize w.heap.size + 1=g2 at K2 ⊢
 generalize w.heap.size=g1 at K1 ⊢
 refine nmW fun w0 hw0=>?_
 rw [hw0] at W0 K1 K2
 clear hw0
 go_cut [33] from 6 to 33 (fun c wx=>c=.bool (!h)∧wx=w0)
 case first =>
  have q0:w0.cell? ⟨g1,0,none⟩=some (.bool f1):=K1.out.cell 0; have q1:w0.cell? ⟨g1,1,none⟩=some (.string n1):=K1.out.cell 1; have q2:w0.cell? ⟨g1,2,none⟩=some (.slice P1 p1.len cp1):=K1.out.cell 2; have q3:w0.cell? ⟨g1,3,none⟩=some (.int .i64 t1.base):=K1.out.cell 3; have q4:w0.cell? ⟨g1,4,none⟩=some (.int .i64 t1.bits):=K1.out.cell 4; have q5:w0.cell? ⟨g1,5,none⟩=some (.string t1.name):=K1.out.cell 5; have q6:w0.cell? ⟨g1,6,none⟩=some (.bool t1.opt):=K1.out.cell 6; have q7:w0.cell? ⟨g1,7,none⟩=some (.bool t1.err):=K1.out.cell 7
  have r0:w0.cell? ⟨g2,0,none⟩=some (.bool f2):=K2.out.cell 0; have r1:w0.cell? ⟨g2,1,none⟩=some (.string n2):=K2.out.cell 1; have r2:w0.cell? ⟨g2,2,none⟩=some (.slice P2 p2.len cp2):=K2.out.cell 2; have r3:w0.cell? ⟨g2,3,none⟩=some (.int .i64 t2.base):=K2.out.cell 3; have r4:w0.cell? ⟨g2,4,none⟩=some (.int .i64 t2.bits):=K2.out.cell 4; have r5:w0.cell? ⟨g2,5,none⟩=some (.string t2.name):=K2.out.cell 5; have r6:w0.cell? ⟨g2,6,none⟩=some (.bool t2.opt):=K2.out.cell 6; have r7:w0.cell? ⟨g2,7,none⟩=some (.bool t2.err):=K2.out.cell 7
  have hq:=run_ty_neq t1 t2
  generalize tyB t1 t2=z2 at hq HH
  clear HV HD HR LP1 LP2 K1 K2
  generalize p1.len=l1 at *
  generalize p2.len=l2 at *
  go_wp2_with fail
  all_goals
   go_meet
   refine ⟨congrArg Value.bool ?_,rfl⟩
   rw [← HH.out]; first | rfl | (simp [*]; done) | (simp [*,bne]; done) | (simp [*]; omega)
 case rest =>
 obtain ⟨rfl,rfl⟩:=hcut
 cases h
 case false =>
  have hRf:R=false:=by
   have h1:=HH.out
   rw [← HR.out]
   cases hb:eqN p1 p2
   ·simp
   ·rw [eqN_len _ _ hb] at h1
    simp only [beq_self_eq_true,Bool.true_and,Bool.and_eq_false_iff,beq_eq_false_iff_ne,ne_eq] at h1 ⊢
    rcases h1 with h1 | h1 | h1
    ·exact .inl h1
    ·exact .inr (.inl h1)
    ·exact .inr (.inr (.inl h1))
  subst hRf
  go_wp2_with fail
  go_ret
  exact ⟨rfl,W0.out⟩
 case true =>
 have hHH:p1.len=p2.len∧Hid ((eqN p1 p2 && (ev && ed))=R):=by
  have h1:=HH.out
  simp only [Bool.and_eq_true,beq_iff_eq] at h1
  obtain ⟨h2,h3,h4,h5⟩:=h1
  refine ⟨h4,?_⟩
  unfold Hid
  rw [← HR.out,h2,h3,h5]
  simp
 obtain ⟨h4,E2⟩:=hHH
 rw [← h4] at LP2 K2
 generalize hN:p1.len=N at *
 have LQ1:Hid (Lp (vp p wc) P1 N 4 0 p1):=LP1.out.mono (vp_ext W0.out)
 have LQ2:Hid (Lp (vp q wc) P2 N 4 0 p2):=LP2.out.mono (vp_ext W0.out)
 clear HH HR LP1 LP2 h4 hN
 go_upto_region 4 with fail
 go_loopw [5] (fun u5 wr=>∃ (j:Nat) (rp sp:Nd),u5=.int .i64 j∧Hid (Lp (vp p wr) P1 N 4 j rp)∧Hid (Lp (vp q wr) P2 N 4 j sp)∧Hid (Ext wc wr)∧Hid (eqN rp sp=eqN p1 p2)) (fun u5 _=>N - (intOf u5).toNat)
 case atStart=>exact ⟨0,p1,p2,rfl,LQ1,LQ2,Ext.refl _,rfl⟩
 case round =>
  clear LQ1 LQ2
  obtain ⟨j,rp,sp,rfl,L,M,X,hE⟩:=hrel
  have q2:wr.cell? ⟨g1,2,none⟩=some (.slice P1 N cp1):=(K1.out.ext X.out).cell 2
  have r2:wr.cell? ⟨g2,2,none⟩=some (.slice P2 N cp2):=(K2.out.ext X.out).cell 2
  by_cases hlt:j < N
  case pos =>
   have hltI:(j:Int) < (N:Int):=by omega
   have hwj:wrap64 ((j:Int) + 1)=(j:Int) + 1:=IntWalk.wrap64_in _ (by have:=HN.out; omega)
   obtain ⟨m3,y3,z3,rp1,rfl⟩:=L.out.pa1 hlt
   obtain ⟨m4,y4,z4,sp1,rfl⟩:=M.out.pa1 hlt
   obtain ⟨e1,f3,xs,rfl,hnx,hcx,L'⟩:=L.out.step hlt
   obtain ⟨e2,f4,ys,rfl,hny,hcy,M'⟩:=M.out.step hlt
   obtain rfl:=nv_paI hnx
   obtain rfl:=nv_paI hny
   have HW:Hid (∀ w',Ext wr w' → w'.cell? ⟨g1,2,none⟩=some (.slice (some ⟨e1,f3,none⟩) N cp1)∧w'.cell? ⟨g2,2,none⟩=some (.slice (some ⟨e2,f4,none⟩) N cp2)∧w'.cell? ⟨e1,f3 + j * 7,none⟩=some (.string m3)∧w'.cell? ⟨e1,f3 + j * 7 + 1,none⟩=some (.int .i64 y3.base)∧w'.cell? ⟨e1,f3 + j * 7 + 2,none⟩=some (.int .i64 y3.bits)∧w'.cell? ⟨e1,f3 + j * 7 + 3,none⟩=some (.string y3.name)∧w'.cell? ⟨e1,f3 + j * 7 + 4,none⟩=some (.bool y3.opt)∧w'.cell? ⟨e1,f3 + j * 7 + 5,none⟩=some (.bool y3.err)∧w'.cell? ⟨e1,f3 + j * 7 + 6,none⟩=some (.bool z3)∧w'.cell? ⟨e2,f4 + j * 7,none⟩=some (.string m4)∧w'.cell? ⟨e2,f4 + j * 7 + 1,none⟩=some (.int .i64 y4.base)∧w'.cell? ⟨e2,f4 + j * 7 + 2,none⟩=some (.int .i64 y4.bits)∧w'.cell? ⟨e2,f4 + j * 7 + 3,none⟩=some (.string y4.name)∧w'.cell? ⟨e2,f4 + j * 7 + 4,none⟩=some (.bool y4.opt)∧w'.cell? ⟨e2,f4 + j * 7 + 5,none⟩=some (.bool y4.err)∧w'.cell? ⟨e2,f4 + j * 7 + 6,none⟩=some (.bool z4)):=fun w' X5=>⟨((K1.out.ext X.out).ext X5).cell 2,((K2.out.ext X.out).ext X5).cell 2,row_at hcx X5 (j:=0) rfl,row_at hcx X5 (j:=1) rfl,row_at hcx X5 (j:=2) rfl,row_at hcx X5 (j:=3) rfl,row_at hcx X5 (j:=4) rfl,row_at hcx X5 (j:=5) rfl,row_at hcx X5 (j:=6) rfl,row_at hcy X5 (j:=0) rfl,row_at hcy X5 (j:=1) rfl,row_at hcy X5 (j:=2) rfl,row_at hcy X5 (j:=3) rfl,row_at hcy X5 (j:=4) rfl,row_at hcy X5 (j:=5) rfl,row_at hcy X5 (j:=6) rfl⟩
   have LB:Hid (Lp (vp p wr) (some ⟨e1,f3,none⟩) N 4 (j + 1) rp1):=L'
   have MB:Hid (Lp (vp q wr) (some ⟨e2,f4,none⟩) N 4 (j + 1) sp1):=M'
   have E3:Hid ((paB m3 y3 z3 m4 y4 z4 && eqN rp1 sp1)=eqN p1 p2):=hE.out
   have hq:=run_pa_neq m3 m4 y3 y4 z3 z4
   generalize paB m3 y3 z3 m4 y4 z4=e at hq E3
   clear hnx hny hcx hcy L' M' L M hE
   go_upto_region 6 with fail
   clear q2 r2
   go_cut [51] from 41 to 51 (fun c wx=>c=.bool (!e)∧Hid (Ext wr wx))
   case first =>
    obtain ⟨s0,s1,s2,s3,s4,s5,s6,s7,s8,s9,s10,s11,s12,s13,s14,s15⟩:=HW.out wr (Ext.refl _)
    clear LB MB E3 X E2 HV HD K1 K2 W0
    go_region_held3 (fun w'=>w'.cell? ⟨g1,2,none⟩=some (.slice (some ⟨e1,f3,none⟩) N cp1)∧w'.cell? ⟨g2,2,none⟩=some (.slice (some ⟨e2,f4,none⟩) N cp2)∧w'.cell? ⟨e1,f3 + j * 7,none⟩=some (.string m3)∧w'.cell? ⟨e1,f3 + j * 7 + 1,none⟩=some (.int .i64 y3.base)∧w'.cell? ⟨e1,f3 + j * 7 + 2,none⟩=some (.int .i64 y3.bits)∧w'.cell? ⟨e1,f3 + j * 7 + 3,none⟩=some (.string y3.name)∧w'.cell? ⟨e1,f3 + j * 7 + 4,none⟩=some (.bool y3.opt)∧w'.cell? ⟨e1,f3 + j * 7 + 5,none⟩=some (.bool y3.err)∧w'.cell? ⟨e1,f3 + j * 7 + 6,none⟩=some (.bool z3)∧w'.cell? ⟨e2,f4 + j * 7,none⟩=some (.string m4)∧w'.cell? ⟨e2,f4 + j * 7 + 1,none⟩=some (.int .i64 y4.base)∧w'.cell? ⟨e2,f4 + j * 7 + 2,none⟩=some (.int .i64 y4.bits)∧w'.cell? ⟨e2,f4 + j * 7 + 3,none⟩=some (.string y4.name)∧w'.cell? ⟨e2,f4 + j * 7 + 4,none⟩=some (.bool y4.opt)∧w'.cell? ⟨e2,f4 + j * 7 + 5,none⟩=some (.bool y4.err)∧w'.cell? ⟨e2,f4 + j * 7 + 6,none⟩=some (.bool z4)) ((exact HW.out _ exA)) (fail)
    all_goals
     go_wp2_with fail
     go_meet
     exact ⟨rfl,(Ext.refl wr).drew⟩
   case rest =>
    obtain ⟨rfl,X5⟩:=hcut
    cases e
    case false =>
     have hRf:R=false:=by rw [← E2.out,← E3.out]; rfl
     subst hRf
     go_wp2_with fail
     go_ret
     exact ⟨rfl,(W0.out.trans X.out).trans X5.out⟩
    case true =>
     have E4:Hid (eqN rp1 sp1=eqN p1 p2):=E3.out
     go_wp2_with fail
     go_roundw
     case rel=>exact ⟨j + 1,rp1,sp1,by first | rfl | (rw [hwj]; rfl),LB.out.mono (vp_ext X5.out),MB.out.mono (vp_ext X5.out),X.out.trans X5.out,E4⟩
     case measure=>(try rw [hwj]); rw [iof_succ,iof_nat]; exact Nat.sub_lt_sub_left hlt (Nat.lt_succ_self j)
  case neg =>
   obtain rfl:=L.out.fin hlt
   obtain rfl:=M.out.fin hlt
   have hltI:¬ (j:Int) < (N:Int):=by omega
   have E3:Hid ((ev && ed)=R):=by have h9:=E2.out; rw [← hE.out] at h9; exact h9
   have X5:=Lib.hid (W0.out.trans X.out)
   have K5:=Lib.hid (K1.out.ext X.out)
   have K6:=Lib.hid (K2.out.ext X.out)
   clear E2 hE L M K1 K2
   have q8:wr.cell? ⟨g1,8,none⟩=some (.int .i64 o1):=K5.out.cell 8; have q9:wr.cell? ⟨g1,9,none⟩=some (.int .i64 y1.base):=K5.out.cell 9; have q10:wr.cell? ⟨g1,10,none⟩=some (.int .i64 y1.bits):=K5.out.cell 10; have q11:wr.cell? ⟨g1,11,none⟩=some (.string y1.name):=K5.out.cell 11; have q12:wr.cell? ⟨g1,12,none⟩=some (.bool y1.opt):=K5.out.cell 12; have q13:wr.cell? ⟨g1,13,none⟩=some (.bool y1.err):=K5.out.cell 13; have q14:wr.cell? ⟨g1,14,none⟩=some (.string m1):=K5.out.cell 14; have q15:wr.cell? ⟨g1,15,none⟩=some (.int .i64 k1):=K5.out.cell 15; have q16:wr.cell? ⟨g1,16,none⟩=some (.slice A1 a1.len ca1):=K5.out.cell 16; have q17:wr.cell? ⟨g1,17,none⟩=some (.slice B1 b1.len cb1):=K5.out.cell 17
   have r8:wr.cell? ⟨g2,8,none⟩=some (.int .i64 o2):=K6.out.cell 8; have r9:wr.cell? ⟨g2,9,none⟩=some (.int .i64 y2.base):=K6.out.cell 9; have r10:wr.cell? ⟨g2,10,none⟩=some (.int .i64 y2.bits):=K6.out.cell 10; have r11:wr.cell? ⟨g2,11,none⟩=some (.string y2.name):=K6.out.cell 11; have r12:wr.cell? ⟨g2,12,none⟩=some (.bool y2.opt):=K6.out.cell 12; have r13:wr.cell? ⟨g2,13,none⟩=some (.bool y2.err):=K6.out.cell 13; have r14:wr.cell? ⟨g2,14,none⟩=some (.string m2):=K6.out.cell 14; have r15:wr.cell? ⟨g2,15,none⟩=some (.int .i64 k2):=K6.out.cell 15; have r16:wr.cell? ⟨g2,16,none⟩=some (.slice A2 a2.len ca2):=K6.out.cell 16; have r17:wr.cell? ⟨g2,17,none⟩=some (.slice B2 b2.len cb2):=K6.out.cell 17
   cases ev
   all_goals
    go_wp2_with (first
     | (go_at_call 73; refine (HV.out _ X5.out).mono ?_; rintro r w5 ⟨rfl,x5⟩; have q18:w5.cell? ⟨g1,18,none⟩=some (.slice D1 d1.len cd1):=(K5.out.ext x5).cell 18; have r18:w5.cell? ⟨g2,18,none⟩=some (.slice D2 d2.len cd2):=(K6.out.ext x5).cell 18)
     | (go_at_call 74; refine (HD.out _ (X5.out.trans x5)).mono ?_; rintro r w6 ⟨rfl,x6⟩))
    go_ret
    exact ⟨ret_bool E3.out,by first | exact X5.out.trans x5 | exact X5.out.trans (x5.trans x6)⟩
end Go.Proofs.YtmmnhbhnjiajhaaGreatDoor.c
