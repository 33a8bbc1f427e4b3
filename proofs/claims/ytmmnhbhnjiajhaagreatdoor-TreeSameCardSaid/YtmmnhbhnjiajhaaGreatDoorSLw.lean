/- Lists of nodes that are no longer, at whatever depth, than memory reaches. No condition. One element put behind those that a call owns. Condition: memory bears them all. The reference's equality of expressions: contracts for lists of fewer than so many nodes. No condition. The reference's equality of lists of expressions. No condition. -/
import Derived.Test.YtmmnhbhnjiajhaaGreatDoorSUu
import Derived.Test.YtmmnhbhnjiajhaaGreatDoorSTq
import Derived.Test.YtmmnhbhnjiajhaaGreatDoorSVa
import Derived.Deep.CutRange
namespace Go.Proofs.YtmmnhbhnjiajhaaGreatDoor.c
open Go.RowKit
set_option linter.unusedVariables false
set_option maxRecDepth 100000
set_option maxHeartbeats 6400000
set_option linter.unusedSimpArgs false
def LW:Nd → Prop
 | .nil=>True
 | .ex _ _ _ _ a b tl=>(tl.len + 1) * 120 ≤ 140737488355328∧LW a∧LW b∧LW tl
 | .st _ _ _ a b c tl=>(tl.len + 1) * 136 ≤ 140737488355328∧LW a∧LW b∧LW c∧LW tl
 | .bl b tl=>(tl.len + 1) * 24 ≤ 140737488355328∧LW b∧LW tl
 | .ca _ _ b tl=>(tl.len + 1) * 40 ≤ 140737488355328∧LW b∧LW tl
 | .pa _ _ _ tl=>(tl.len + 1) * 64 ≤ 140737488355328∧LW tl
 | .de _ _ p _ v b tl=>(tl.len + 1) * 232 ≤ 140737488355328∧LW p∧LW v∧LW b∧LW tl
theorem LW.len {x:Nd} (h:LW x):x.len ≤ 5864062014806:=by
 cases x with
 | nil=>exact Nat.zero_le _
 | ex=>have:=h.1; simp only [Nd.len]; omega
 | st=>have:=h.1; simp only [Nd.len]; omega
 | bl=>have:=h.1; simp only [Nd.len]; omega
 | ca=>have:=h.1; simp only [Nd.len]; omega
 | pa=>have:=h.1; simp only [Nd.len]; omega
 | de=>have:=h.1; simp only [Nd.len]; omega
theorem LW.hd {x:Nd} (h:LW x):LW x.hd:=by
 cases x with
 | nil=>trivial
 | ex=>exact ⟨by decide,h.2.1,h.2.2.1,trivial⟩
 | st=>exact ⟨by decide,h.2.1,h.2.2.1,h.2.2.2.1,trivial⟩
 | bl=>exact ⟨by decide,h.2.1,trivial⟩
 | ca=>exact ⟨by decide,h.2.1,trivial⟩
 | pa=>exact ⟨by decide,trivial⟩
 | de=>exact ⟨by decide,h.2.1,h.2.2.1,h.2.2.2.1,trivial⟩
theorem LW.tl {x:Nd} (h:LW x):LW x.tl:=by
 cases x with
 | nil=>trivial
 | ex=>exact h.2.2.2
 | st=>exact h.2.2.2.2
 | bl=>exact h.2.2
 | ca=>exact h.2.2
 | pa=>exact h.2
 | de=>exact h.2.2.2.2
theorem LW.right:∀ {x y:Nd},LW (x.app y) → LW y
 | .nil,_,h=>h
 | .ex ..,_,h=>LW.right h.2.2.2
 | .st ..,_,h=>LW.right h.2.2.2.2
 | .bl ..,_,h=>LW.right h.2.2
 | .ca ..,_,h=>LW.right h.2.2
 | .pa ..,_,h=>LW.right h.2
 | .de ..,_,h=>LW.right h.2.2.2.2
def bzK (k:Nat):Nat:=if k=0 then 120 else if k=1 then 136 else if k=2 then 24 else if k=3 then 40 else if k=4 then 64 else 232
theorem LW.bytes {V:Vw} {x:Nd} {k:Nat} {xs:List Value} (h:LW x) (e:Elems V x k xs):x.len * bzK k ≤ 140737488355328:=by
 cases x with
 | nil=>simp [Nd.len]
 | ex=>obtain ⟨rfl,_⟩:=e; exact h.1
 | st=>obtain ⟨rfl,_⟩:=e; exact h.1
 | bl=>obtain ⟨rfl,_⟩:=e; exact h.1
 | ca=>obtain ⟨rfl,_⟩:=e; exact h.1
 | pa=>obtain ⟨rfl,_⟩:=e; exact h.1
 | de=>obtain ⟨rfl,_⟩:=e; exact h.1
section
variable {ops:Array Oper} {rest:List Oper} {o:Oper} {a:Act} {Q:Exit → Act → World → Prop} {w:World} {K:Act → World → Prop}
theorem wp_app2 {T E:TypeId} {sz b:Nat} {z:Value} (ht:Tryz.prog.underlying T=some (.slice E)) (hi:(Tryz.prog.info? E).map (fun i=>(i.zero,i.size,i.bytes))=some (some z,sz,b)) (hz:z.cells.size=sz) (hsz:0 < sz) (hb:0 < b)
  (s x:Operand) (ho:o.op=.call { callee:=.builtin .append,args:=#[s,x],argTypes:=#[T,T] }) (base:Nat) (v:Value) (n:Nat) (xs:List Value) (hs:a.eval s=v) (hown:w.ownsRow base E sz v n xs)
  (g c:Nat) (cs:Array Value) (hx:a.eval x=.slice (some ⟨g,0,none⟩) 1 c) (hB:Blk w g E cs) (hcs:cs.size=sz) (h1:∀ u ∈ cs.toList,u.oneCell'=true) (hby:(n + 1) * b ≤ 140737488355328) (hbase:base ≤ w.heap.size)
  (h:∀ v' w',w'.ownsRow base E sz v' (n + 1) (xs ++ cs.toList) → w.grownBy w' v.ownBlock → (v'.ownBlock=v.ownBlock ∨ v'.ownBlock=some w.heap.size) → K (a.put o.dst v') w'):o.wp Tryz.prog a w K Q:=by
 obtain ⟨i0,hi0,hz0,hz1,hz2⟩:=info_parts hi
 have hnew:∀ j u,cs.toList[j]?=some u → w.cell? ((⟨g,0,none⟩:Addr).add j)=some u:=fun j u hj=>by
  rw [Addr.add_mid,Nat.zero_add,hB.cell]; simpa using hj
 have hn:n + 1 ≤ 140737488355328:=Nat.le_trans (Nat.le_mul_of_pos_right _ hb) hby
 obtain ⟨v',w',hrun,r1,r2,_⟩:=run_append_own w base T o.type E i0 z sz b ht hi0 hz0 hz1 hz2 hz hsz v n xs hown ⟨g,0,none⟩ 1 c cs.toList (by simpa using hcs) hnew h1 (by unfold maxLen; omega) hby hbase
 have hbk:v'.ownBlock=v.ownBlock ∨ v'.ownBlock=some w.heap.size:=by
  rcases hown.2 with ⟨rfl,rfl⟩ | ⟨k,cap,cur,rfl,hbg,hg,hnc,hcm,hcs2,htake⟩
  ·have hx:xs=[]:=List.eq_nil_of_length_eq_zero (by simpa using hown.1)
   subst hx
   have hr:=run_append_nil (P:=Tryz.prog) w T o.type E i0 z ht hi0 hz0 ⟨g,0,none⟩ 1 c cs.toList (by simp [hcs,hz1]) hnew (by omega) (by omega) (by omega)
   rw [hrun] at hr
   cases hr
   exact .inr rfl
  ·by_cases hroom:n + 1 ≤ cap
   ·have hr:=run_append_room (P:=Tryz.prog) w T o.type E i0 ht hi0 k n cap cur hg ⟨g,0,none⟩ 1 c cs.toList (by simp [hcs,hz1]) hnew h1 hroom (by have:=Nat.mul_le_mul_right sz hroom; simp [hcs,hz1,hcs2,Nat.add_mul] at this ⊢; omega)
    rw [hrun] at hr
    cases hr
    exact .inl rfl
   ·have hr:=run_append_grow (P:=Tryz.prog) w T o.type E i0 z ht hi0 hz0 ⟨k,0,none⟩ n cap xs (by rw [hz1]; exact hown.1) (hown.cells (g:=k) rfl) ⟨g,0,none⟩ 1 c cs.toList (by simp [hcs,hz1]) hnew (by omega) (by omega) (growslice_fits (by omega) (by rw [hz2]; exact hby))
    rw [hrun] at hr
    cases hr
    exact .inr rfl
 have h2:(execOp a.eval o).run Tryz.prog w=.ok (.value v') w':=by simp [execOp,ho,resolve,invoke,builtin,hs,hx,hrun,Result.andThen]
 simp only [Oper.wp,h2,Oper.upon]
 exact h v' w' r1 r2 hbk
theorem wpList_app2 {T E:TypeId} {sz b:Nat} {z:Value} (ht:Tryz.prog.underlying T=some (.slice E)) (hi:(Tryz.prog.info? E).map (fun i=>(i.zero,i.size,i.bytes))=some (some z,sz,b)) (hz:z.cells.size=sz) (hsz:0 < sz) (hb:0 < b) (hgd:o.guard=none)
  (s x:Operand) (ho:o.op=.call { callee:=.builtin .append,args:=#[s,x],argTypes:=#[T,T] }) (base:Nat) (v:Value) (n:Nat) (xs:List Value) (hs:a.eval s=v) (hown:w.ownsRow base E sz v n xs)
  (g c:Nat) (cs:Array Value) (hx:a.eval x=.slice (some ⟨g,0,none⟩) 1 c) (hB:Blk w g E cs) (hcs:cs.size=sz) (h1:∀ u ∈ cs.toList,u.oneCell'=true) (hby:(n + 1) * b ≤ 140737488355328) (hbase:base ≤ w.heap.size)
  (h:∀ v' w',w'.ownsRow base E sz v' (n + 1) (xs ++ cs.toList) → w.grownBy w' v.ownBlock → (v'.ownBlock=v.ownBlock ∨ v'.ownBlock=some w.heap.size) → wpList Tryz.prog ops Q rest (a.put o.dst v') w'):wpList Tryz.prog ops Q (o :: rest) a w :=
 wpList_plain hgd fun _ hK=>wp_app2 ht hi hz hsz hb s x ho base v n xs hs hown g c cs hx hB hcs h1 hby hbase fun v' w' r1 r2 r3=>hK _ _ (h v' w' r1 r2 r3)
end
def eqN:Nd → Nd → Bool
 | .nil,y=>y.len == 0
 | .ex o t n k a b tl,y=>match y with
  | .ex o' t' n' k' a' b' tl'=>(o == o' && (tyB t t' && (n.toList == n'.toList && (k == k' && (eqN a a' && eqN b b'))))) && eqN tl tl'
  | _=>false
 | .st o n t a b c tl,y=>match y with
  | .st o' n' t' a' b' c' tl'=>(o == o' && (n.toList == n'.toList && (tyB t t' && (eqN a a' && (eqN b b' && eqN c c'))))) && eqN tl tl'
  | _=>false
 | .bl b tl,y=>match y with
  | .bl b' tl'=>eqN b b' && eqN tl tl'
  | _=>false
 | .ca l h b tl,y=>match y with
  | .ca l' h' b' tl'=>(l == l' && (h == h' && eqN b b')) && eqN tl tl'
  | _=>false
 | .pa n t k tl,y=>match y with
  | .pa n' t' k' tl'=>(n.toList == n'.toList && (tyB t t' && k == k')) && eqN tl tl'
  | _=>false
 | .de f n p t v b tl,y=>match y with
  | .de f' n' p' t' v' b' tl'=>(f == f' && (n.toList == n'.toList && (eqN p p' && (tyB t t' && (eqN v v' && eqN b b'))))) && eqN tl tl'
  | _=>false
theorem eqN_len:∀ (x y:Nd),eqN x y=true → x.len=y.len
 | .nil,y,h=>by simp [eqN] at h; simp [Nd.len,h]
 | .ex o t n k a b tl,y,h=>by
  cases y <;> simp only [eqN,Bool.and_eq_true,Bool.false_eq_true] at h
  simp only [Nd.len,eqN_len tl _ h.2]
 | .st o n t a b c tl,y,h=>by
  cases y <;> simp only [eqN,Bool.and_eq_true,Bool.false_eq_true] at h
  simp only [Nd.len,eqN_len tl _ h.2]
 | .bl b tl,y,h=>by
  cases y <;> simp only [eqN,Bool.and_eq_true,Bool.false_eq_true] at h
  simp only [Nd.len,eqN_len tl _ h.2]
 | .ca l u b tl,y,h=>by
  cases y <;> simp only [eqN,Bool.and_eq_true,Bool.false_eq_true] at h
  simp only [Nd.len,eqN_len tl _ h.2]
 | .pa n t k tl,y,h=>by
  cases y <;> simp only [eqN,Bool.and_eq_true,Bool.false_eq_true] at h
  simp only [Nd.len,eqN_len tl _ h.2]
 | .de f n p t v b tl,y,h=>by
  cases y <;> simp only [eqN,Bool.and_eq_true,Bool.false_eq_true] at h
  simp only [Nd.len,eqN_len tl _ h.2]
theorem eqN_ne {x y:Nd} (h:x.len ≠ y.len):eqN x y=false:=by
 cases e:eqN x y
 ·rfl
 ·exact absurd (eqN_len x y e) h
theorem eqN_self:∀ x:Nd,eqN x x=true
 | .nil=>rfl
 | .ex o t n k a b tl=>by simp [eqN,tyB_self,eqN_self a,eqN_self b,eqN_self tl]
 | .st o n t a b c tl=>by simp [eqN,tyB_self,eqN_self a,eqN_self b,eqN_self c,eqN_self tl]
 | .bl b tl=>by simp [eqN,eqN_self b,eqN_self tl]
 | .ca l h b tl=>by simp [eqN,eqN_self b,eqN_self tl]
 | .pa n t k tl=>by simp [eqN,tyB_self,eqN_self tl]
 | .de f n p t v b tl=>by simp [eqN,tyB_self,eqN_self p,eqN_self v,eqN_self b,eqN_self tl]
def VE (n:Nat):Prop:=∀ (x y:Nd),x.sz < n → LW x → x.len=1 → y.len=1 → ∀ (w:World) (cs ds:Array Value) (p q:Nat → Prop),Nv (vp p w) 0 x cs → Nv (vp q w) 0 y ds → Calls Tryz.prog 73 #[.agg cs,.agg ds] w fun e w'=>e=.returned (.bool (eqN x y))∧Ext w w'
def VL (n:Nat):Prop:=∀ (x y:Nd),x.sz < n → LW x → ∀ (w:World) (v u:Value) (p q:Nat → Prop),Sl (vp p w) v x 0 → Sl (vp q w) u y 0 → Calls Tryz.prog 128 #[v,u] w fun e w'=>e=.returned (.bool (eqN x y))∧Ext w w'
def VT (n:Nat):Prop:=∀ (x y:Nd),x.sz < n → LW x → ∀ (w:World) (v u:Value) (p q:Nat → Prop),Sl (vp p w) v x 1 → Sl (vp q w) u y 1 → Calls Tryz.prog 74 #[v,u] w fun e w'=>e=.returned (.bool (eqN x y))∧Ext w w'
theorem ve_step {n:Nat} (ihL:VL n) (ihT:VT n):VE (n + 1):=by
 intro x y hsz hlw h1 h2 w cs ds p q hnx hny
 obtain rfl | ⟨o1,t1,n1,k1,a1,b1,r,rfl⟩:=hnx.1.ex
 ·cases h1
 obtain rfl:r=.nil:=tl_one h1
 obtain rfl | ⟨o2,t2,n2,k2,a2,b2,r,rfl⟩:=hny.1.ex
 ·cases h2
 obtain rfl:r=.nil:=tl_one h2
 obtain ⟨va,vb,rfl,ha1,hb1⟩:=nv_exI hnx
 obtain ⟨A1,ca1,rfl,_⟩:=ha1.lp
 obtain ⟨B1,cb1,rfl,_⟩:=hb1.lp
 obtain ⟨va,vb,rfl,ha2,hb2⟩:=nv_exI hny
 obtain ⟨A2,ca2,rfl,_⟩:=ha2.lp
 obtain ⟨B2,cb2,rfl,_⟩:=hb2.lp
 have hz:a1.sz < n∧b1.sz < n:=by simp only [Nd.sz] at hsz; omega
 have HA:Hid (∀ w1,Ext w w1 → Calls Tryz.prog 128 #[.slice A1 a1.len ca1,.slice A2 a2.len ca2] w1 fun e w'=>e=.returned (.bool (eqN a1 a2))∧Ext w1 w'):=fun w1 X=>ihL a1 a2 hz.1 hlw.2.1 w1 _ _ p q (ha1.mono (vp_ext X)) (ha2.mono (vp_ext X))
 have HB:Hid (∀ w1,Ext w w1 → Calls Tryz.prog 74 #[.slice B1 b1.len cb1,.slice B2 b2.len cb2] w1 fun e w'=>e=.returned (.bool (eqN b1 b2))∧Ext w1 w'):=fun w1 X=>ihT b1 b2 hz.2 hlw.2.2.1 w1 _ _ p q (hb1.mono (vp_ext X)) (hb2.mono (vp_ext X))
 obtain ⟨R,hR⟩:∃ R,eqN (.ex o1 t1 n1 k1 a1 b1 .nil) (.ex o2 t2 n2 k2 a2 b2 .nil)=R:=⟨_,rfl⟩
 rw [hR]
 have HR:Hid ((o1 == o2 && (tyB t1 t2 && (n1.toList == n2.toList && (k1 == k2 && (eqN a1 a2 && eqN b1 b2)))))=R):=(Bool.and_true _).symm.trans hR
 have hq:=run_ty_eql t1 t2
 generalize eqN a1 a2=e1 at HA HR
 generalize eqN b1 b2=e2 at HB HR
 generalize tyB t1 t2=e3 at hq HR
 have W0:Hid (Ext w ((w.alloc (.cells #[.int .i64 o1,.int .i64 t1.base,.int .i64 t1.bits,.string t1.name,.bool t1.opt,.bool t1.err,.string n1,.int .i64 k1,.slice A1 a1.len ca1,.slice B1 b1.len cb1] 36)).alloc (.cells #[.int .i64 o2,.int .i64 t2.base,.int .i64 t2.bits,.string t2.name,.bool t2.opt,.bool t2.err,.string n2,.int .i64 k2,.slice A2 a2.len ca2,.slice B2 b2.len cb2] 36))):=((Ext.refl w).alloc _).alloc _
 have K1:Hid (Blk ((w.alloc (.cells #[.int .i64 o1,.int .i64 t1.base,.int .i64 t1.bits,.string t1.name,.bool t1.opt,.bool t1.err,.string n1,.int .i64 k1,.slice A1 a1.len ca1,.slice B1 b1.len cb1] 36)).alloc (.cells #[.int .i64 o2,.int .i64 t2.base,.int .i64 t2.bits,.string t2.name,.bool t2.opt,.bool t2.err,.string n2,.int .i64 k2,.slice A2 a2.len ca2,.slice B2 b2.len cb2] 36)) w.heap.size 36 #[.int .i64 o1,.int .i64 t1.base,.int .i64 t1.bits,.string t1.name,.bool t1.opt,.bool t1.err,.string n1,.int .i64 k1,.slice A1 a1.len ca1,.slice B1 b1.len cb1]):=(Blk.new w _ _).alloc _
 have K2:Hid (Blk ((w.alloc (.cells #[.int .i64 o1,.int .i64 t1.base,.int .i64 t1.bits,.string t1.name,.bool t1.opt,.bool t1.err,.string n1,.int .i64 k1,.slice A1 a1.len ca1,.slice B1 b1.len cb1] 36)).alloc (.cells #[.int .i64 o2,.int .i64 t2.base,.int .i64 t2.bits,.string t2.name,.bool t2.opt,.bool t2.err,.string n2,.int .i64 k2,.slice A2 a2.len ca2,.slice B2 b2.len cb2] 36)) (w.heap.size + 1) 36 #[.int .i64 o2,.int .i64 t2.base,.int .i64 t2.bits,.string t2.name,.bool t2.opt,.bool t2.err,.string n2,.int .i64 k2,.slice A2 a2.len ca2,.slice B2 b2.len cb2]):=by
  have q:=Blk.new (w.alloc (.cells #[.int .i64 o1,.int .i64 t1.base,.int .i64 t1.bits,.string t1.name,.bool t1.opt,.bool t1.err,.string n1,.int .i64 k1,.slice A1 a1.len ca1,.slice B1 b1.len cb1] 36)) 36 #[.int .i64 o2,.int .i64 t2.base,.int .i64 t2.bits,.string t2.name,.bool t2.opt,.bool t2.err,.string n2,.int .i64 k2,.slice A2 a2.len ca2,.slice B2 b2.len cb2]
  rw [size_alloc] at q
  exact q
 clear hnx hny ha1 hb1 ha2 hb2 hsz h1 h2 hR hz ihL ihT hlw
 go_enter Tryz.func73,Tryz.ntmps73
 go_upto_region 1 with fail
 generalize w.heap.size + 1=g2 at K2 ⊢
 generalize w.heap.size=g1 at K1 ⊢
 refine nmW fun w0 hw0=>?_
 rw [hw0] at W0 K1 K2
 clear hw0
 have q0:w0.cell? ⟨g1,0,none⟩=some (.int .i64 o1):=K1.out.cell 0; have q1:w0.cell? ⟨g1,1,none⟩=some (.int .i64 t1.base):=K1.out.cell 1; have q2:w0.cell? ⟨g1,2,none⟩=some (.int .i64 t1.bits):=K1.out.cell 2; have q3:w0.cell? ⟨g1,3,none⟩=some (.string t1.name):=K1.out.cell 3; have q4:w0.cell? ⟨g1,4,none⟩=some (.bool t1.opt):=K1.out.cell 4; have q5:w0.cell? ⟨g1,5,none⟩=some (.bool t1.err):=K1.out.cell 5; have q6:w0.cell? ⟨g1,6,none⟩=some (.string n1):=K1.out.cell 6; have q7:w0.cell? ⟨g1,7,none⟩=some (.int .i64 k1):=K1.out.cell 7; have q8:w0.cell? ⟨g1,8,none⟩=some (.slice A1 a1.len ca1):=K1.out.cell 8; have q9:w0.cell? ⟨g1,9,none⟩=some (.slice B1 b1.len cb1):=K1.out.cell 9
 have r0:w0.cell? ⟨g2,0,none⟩=some (.int .i64 o2):=K2.out.cell 0; have r1:w0.cell? ⟨g2,1,none⟩=some (.int .i64 t2.base):=K2.out.cell 1; have r2:w0.cell? ⟨g2,2,none⟩=some (.int .i64 t2.bits):=K2.out.cell 2; have r3:w0.cell? ⟨g2,3,none⟩=some (.string t2.name):=K2.out.cell 3; have r4:w0.cell? ⟨g2,4,none⟩=some (.bool t2.opt):=K2.out.cell 4; have r5:w0.cell? ⟨g2,5,none⟩=some (.bool t2.err):=K2.out.cell 5; have r6:w0.cell? ⟨g2,6,none⟩=some (.string n2):=K2.out.cell 6; have r7:w0.cell? ⟨g2,7,none⟩=some (.int .i64 k2):=K2.out.cell 7; have r8:w0.cell? ⟨g2,8,none⟩=some (.slice A2 a2.len ca2):=K2.out.cell 8; have r9:w0.cell? ⟨g2,9,none⟩=some (.slice B2 b2.len cb2):=K2.out.cell 9
 go_wp2_with (first
  | (go_at_call 128; refine (HA.out _ W0.out).mono ?_; rintro r w5 ⟨rfl,x5⟩; have q9:w5.cell? ⟨g1,9,none⟩=some (.slice B1 b1.len cb1):=(K1.out.ext x5).cell 9; have r9:w5.cell? ⟨g2,9,none⟩=some (.slice B2 b2.len cb2):=(K2.out.ext x5).cell 9)
  | (go_at_call 74; refine (HB.out _ (W0.out.trans x5)).mono ?_; rintro r w6 ⟨rfl,x6⟩))
 all_goals
  go_ret
  exact ⟨ret_bool (by rw [← HR.out]; first | rfl | (simp [*]; done)),by first | exact W0.out | exact W0.out.trans x5 | exact W0.out.trans (x5.trans x6)⟩
theorem Lp.ex1 {V:Vw} {A:Option Addr} {n i:Nat} {r:Nd} (l:Lp V A n 0 i r) (h:i < n):∃ o t nm k a b tl,r=.ex o t nm k a b tl:=by
 obtain ⟨h1,xs,_,_,he⟩:=l
 rcases he.ex with rfl | ⟨o,t,nm,k,a,b,tl,rfl⟩
 ·simp [Nd.len] at h1; omega
 ·exact ⟨_,_,_,_,_,_,_,rfl⟩
theorem eqN_ex {o o':Int} {t t':Ty} {n n':ByteArray} {k k':Int} {a a' b b' tl tl':Nd}:eqN (.ex o t n k a b tl) (.ex o' t' n' k' a' b' tl')=(eqN (.ex o t n k a b .nil) (.ex o' t' n' k' a' b' .nil) && eqN tl tl'):=by
 show (_ && _)=((_ && (Nd.nil.len == 0)) && _)
 rw [show (Nd.nil.len == 0)=true from rfl,Bool.and_true]
theorem eqN_st {o o':Int} {n n':ByteArray} {t t':Ty} {a a' b b' c c' tl tl':Nd}:eqN (.st o n t a b c tl) (.st o' n' t' a' b' c' tl')=(eqN (.st o n t a b c .nil) (.st o' n' t' a' b' c' .nil) && eqN tl tl'):=by
 show (_ && _)=((_ && (Nd.nil.len == 0)) && _)
 rw [show (Nd.nil.len == 0)=true from rfl,Bool.and_true]
theorem eqN_bl {b b' tl tl':Nd}:eqN (.bl b tl) (.bl b' tl')=(eqN (.bl b .nil) (.bl b' .nil) && eqN tl tl'):=by
 show (_ && _)=((_ && (Nd.nil.len == 0)) && _)
 rw [show (Nd.nil.len == 0)=true from rfl,Bool.and_true]
theorem eqN_ca {l l' h h':Int} {b b' tl tl':Nd}:eqN (.ca l h b tl) (.ca l' h' b' tl')=(eqN (.ca l h b .nil) (.ca l' h' b' .nil) && eqN tl tl'):=by
 show (_ && _)=((_ && (Nd.nil.len == 0)) && _)
 rw [show (Nd.nil.len == 0)=true from rfl,Bool.and_true]
theorem eqN_pa {n n':ByteArray} {t t':Ty} {k k':Bool} {tl tl':Nd}:eqN (.pa n t k tl) (.pa n' t' k' tl')=(eqN (.pa n t k .nil) (.pa n' t' k' .nil) && eqN tl tl'):=by
 show (_ && _)=((_ && (Nd.nil.len == 0)) && _)
 rw [show (Nd.nil.len == 0)=true from rfl,Bool.and_true]
theorem eqN_de {f f':Bool} {n n':ByteArray} {t t':Ty} {p p' v v' b b' tl tl':Nd}:eqN (.de f n p t v b tl) (.de f' n' p' t' v' b' tl')=(eqN (.de f n p t v b .nil) (.de f' n' p' t' v' b' .nil) && eqN tl tl'):=by
 show (_ && _)=((_ && (Nd.nil.len == 0)) && _)
 rw [show (Nd.nil.len == 0)=true from rfl,Bool.and_true]
theorem row_at {p:Nat → Prop} {w w':World} {b o:Nat} {l:List Value} (h:∀ j v,l[j]?=some v → vp p w b (o + j)=some v) (x:Ext w w') {j:Nat} {v:Value} (hj:l[j]?=some v):w'.cell? ⟨b,o + j,none⟩=some v :=
 have h1:=(vp_some (h j v hj)).2
 (x.cell (p:=⟨b,o + j,none⟩) (cell_lt h1)).trans h1
theorem vl_step {n:Nat} (ihE:VE n):VL n:=by
 intro x y hsz hlw w v u p q hslx hsly
 obtain ⟨A,c,rfl,la⟩:=hslx.lp
 obtain ⟨A',c',rfl,lb⟩:=hsly.lp
 by_cases hne:x.len=y.len
 case neg =>
  rw [eqN_ne hne]
  have hneI:¬ (x.len:Int)=(y.len:Int):=by omega
  clear la lb hslx hsly hsz ihE hlw
  go_enter Tryz.func128,Tryz.ntmps128
  go_wp2_with fail
  go_ret
  exact ⟨rfl,exA⟩
 have hxl:=hlw.len
 have HLW:=Lib.hid hlw
 rw [← hne] at lb ⊢
 generalize hN:x.len=N at *
 have hN1:N ≤ 4611686018427387904:=by omega
 have L0:=Lib.hid la
 have M0:=Lib.hid lb
 have X0:Hid (Ext w w):=Ext.refl w
 obtain ⟨R,hR⟩:∃ R,eqN x y=R:=⟨_,rfl⟩
 rw [hR]
 have E0:=Lib.hid hR
 have hxs:x.sz < n:=hsz
 clear la lb hslx hsly hsz hR hne hN hxl hlw
 go_enter Tryz.func128,Tryz.ntmps128
 go_wp2_with fail
 go_loopw [5] (fun u5 wr=>∃ (i:Nat) (r s:Nd),u5=.int .i64 i∧Hid (Lp (vp p wr) A N 0 i r)∧Hid (Lp (vp q wr) A' N 0 i s)∧Hid (Ext w wr)∧Hid (eqN r s=R)∧r.sz < n∧Hid (LW r)) (fun u5 _=>N - (intOf u5).toNat)
 case atStart=>exact ⟨0,x,y,rfl,L0,M0,X0,E0,hxs,HLW⟩
 case round =>
  clear L0 M0 X0 E0 HLW
  obtain ⟨i,r,s,rfl,L,M,X,hE,hrz,hlr⟩:=hrel
  by_cases hlt:i < N
  ·have hltI:(i:Int) < (N:Int):=by omega
   have hwi:wrap64 ((i:Int) + 1)=(i:Int) + 1:=IntWalk.wrap64_in _ (by omega)
   obtain ⟨o1,t1,n1,k1,a1,b1,r1,rfl⟩:=L.out.ex1 hlt
   obtain ⟨o2,t2,n2,k2,a2,b2,s1,rfl⟩:=M.out.ex1 hlt
   obtain ⟨bb,oo,cs,rfl,hnx,hcx,L'⟩:=L.out.step hlt
   obtain ⟨bc,oc,ds,rfl,hny,hcy,M'⟩:=M.out.step hlt
   have hrs:(Nd.ex o1 t1 n1 k1 a1 b1 .nil).sz < n∧r1.sz < n:=by simp only [Nd.sz] at hrz ⊢; omega
   have HE:Hid (∀ w1,Ext wr w1 → Calls Tryz.prog 73 #[.agg cs,.agg ds] w1 fun e w'=>e=.returned (.bool (eqN (.ex o1 t1 n1 k1 a1 b1 .nil) (.ex o2 t2 n2 k2 a2 b2 .nil)))∧Ext w1 w'):=fun w1 X2=>ihE _ _ hrs.1 hlr.out.hd rfl rfl w1 cs ds p q (hnx.mono (vp_ext X2)) (hny.mono (vp_ext X2))
   obtain ⟨va,vb,rfl,ha1,hb1⟩:=nv_exI hnx
   obtain ⟨A1,ca1,rfl,_⟩:=ha1.lp
   obtain ⟨B1,cb1,rfl,_⟩:=hb1.lp
   obtain ⟨va,vb,rfl,ha2,hb2⟩:=nv_exI hny
   obtain ⟨A2,ca2,rfl,_⟩:=ha2.lp
   obtain ⟨B2,cb2,rfl,_⟩:=hb2.lp
   have LS:Hid (Lp (vp p wr) (some ⟨bb,oo,none⟩) N 0 (i + 1) r1):=L'
   have HL1:Hid (LW r1):=hlr.out.tl
   have MS:Hid (Lp (vp q wr) (some ⟨bc,oc,none⟩) N 0 (i + 1) s1):=M'
   have E1:Hid ((eqN (.ex o1 t1 n1 k1 a1 b1 .nil) (.ex o2 t2 n2 k2 a2 b2 .nil) && eqN r1 s1)=R):=eqN_ex.symm.trans hE.out
   have HW:Hid (∀ w',Ext wr w' → w'.cell? ⟨bb,oo + i * 10,none⟩=some (.int .i64 o1)∧w'.cell? ⟨bb,oo + i * 10 + 1,none⟩=some (.int .i64 t1.base)∧w'.cell? ⟨bb,oo + i * 10 + 2,none⟩=some (.int .i64 t1.bits)∧w'.cell? ⟨bb,oo + i * 10 + 3,none⟩=some (.string t1.name)∧w'.cell? ⟨bb,oo + i * 10 + 4,none⟩=some (.bool t1.opt)∧w'.cell? ⟨bb,oo + i * 10 + 5,none⟩=some (.bool t1.err)∧w'.cell? ⟨bb,oo + i * 10 + 6,none⟩=some (.string n1)∧w'.cell? ⟨bb,oo + i * 10 + 7,none⟩=some (.int .i64 k1)∧w'.cell? ⟨bb,oo + i * 10 + 8,none⟩=some (.slice A1 a1.len ca1)∧w'.cell? ⟨bb,oo + i * 10 + 9,none⟩=some (.slice B1 b1.len cb1)∧w'.cell? ⟨bc,oc + i * 10,none⟩=some (.int .i64 o2)∧w'.cell? ⟨bc,oc + i * 10 + 1,none⟩=some (.int .i64 t2.base)∧w'.cell? ⟨bc,oc + i * 10 + 2,none⟩=some (.int .i64 t2.bits)∧w'.cell? ⟨bc,oc + i * 10 + 3,none⟩=some (.string t2.name)∧w'.cell? ⟨bc,oc + i * 10 + 4,none⟩=some (.bool t2.opt)∧w'.cell? ⟨bc,oc + i * 10 + 5,none⟩=some (.bool t2.err)∧w'.cell? ⟨bc,oc + i * 10 + 6,none⟩=some (.string n2)∧w'.cell? ⟨bc,oc + i * 10 + 7,none⟩=some (.int .i64 k2)∧w'.cell? ⟨bc,oc + i * 10 + 8,none⟩=some (.slice A2 a2.len ca2)∧w'.cell? ⟨bc,oc + i * 10 + 9,none⟩=some (.slice B2 b2.len cb2)):=fun w' X2=>⟨row_at hcx X2 (j:=0) rfl,row_at hcx X2 (j:=1) rfl,row_at hcx X2 (j:=2) rfl,row_at hcx X2 (j:=3) rfl,row_at hcx X2 (j:=4) rfl,row_at hcx X2 (j:=5) rfl,row_at hcx X2 (j:=6) rfl,row_at hcx X2 (j:=7) rfl,row_at hcx X2 (j:=8) rfl,row_at hcx X2 (j:=9) rfl,row_at hcy X2 (j:=0) rfl,row_at hcy X2 (j:=1) rfl,row_at hcy X2 (j:=2) rfl,row_at hcy X2 (j:=3) rfl,row_at hcy X2 (j:=4) rfl,row_at hcy X2 (j:=5) rfl,row_at hcy X2 (j:=6) rfl,row_at hcy X2 (j:=7) rfl,row_at hcy X2 (j:=8) rfl,row_at hcy X2 (j:=9) rfl⟩
   generalize eqN (.ex o1 t1 n1 k1 a1 b1 .nil) (.ex o2 t2 n2 k2 a2 b2 .nil)=e at HE E1
   clear hnx hny hcx hcy L' M' L M hE hrz ha1 hb1 ha2 hb2 hlr
   go_upto_region 6 with fail
   go_cut [26] from 17 to 26 (fun c wx=>c=.bool (!e)∧Hid (Ext wr wx))
   case first =>
    obtain ⟨s0,s1,s2,s3,s4,s5,s6,s7,s8,s9,s10,s11,s12,s13,s14,s15,s16,s17,s18,s19⟩:=HW.out wr (Ext.refl _)
    clear LS MS E1 X
    go_region_held3 (fun w'=>w'.cell? ⟨bb,oo + i * 10,none⟩=some (.int .i64 o1)∧w'.cell? ⟨bb,oo + i * 10 + 1,none⟩=some (.int .i64 t1.base)∧w'.cell? ⟨bb,oo + i * 10 + 2,none⟩=some (.int .i64 t1.bits)∧w'.cell? ⟨bb,oo + i * 10 + 3,none⟩=some (.string t1.name)∧w'.cell? ⟨bb,oo + i * 10 + 4,none⟩=some (.bool t1.opt)∧w'.cell? ⟨bb,oo + i * 10 + 5,none⟩=some (.bool t1.err)∧w'.cell? ⟨bb,oo + i * 10 + 6,none⟩=some (.string n1)∧w'.cell? ⟨bb,oo + i * 10 + 7,none⟩=some (.int .i64 k1)∧w'.cell? ⟨bb,oo + i * 10 + 8,none⟩=some (.slice A1 a1.len ca1)∧w'.cell? ⟨bb,oo + i * 10 + 9,none⟩=some (.slice B1 b1.len cb1)∧w'.cell? ⟨bc,oc + i * 10,none⟩=some (.int .i64 o2)∧w'.cell? ⟨bc,oc + i * 10 + 1,none⟩=some (.int .i64 t2.base)∧w'.cell? ⟨bc,oc + i * 10 + 2,none⟩=some (.int .i64 t2.bits)∧w'.cell? ⟨bc,oc + i * 10 + 3,none⟩=some (.string t2.name)∧w'.cell? ⟨bc,oc + i * 10 + 4,none⟩=some (.bool t2.opt)∧w'.cell? ⟨bc,oc + i * 10 + 5,none⟩=some (.bool t2.err)∧w'.cell? ⟨bc,oc + i * 10 + 6,none⟩=some (.string n2)∧w'.cell? ⟨bc,oc + i * 10 + 7,none⟩=some (.int .i64 k2)∧w'.cell? ⟨bc,oc + i * 10 + 8,none⟩=some (.slice A2 a2.len ca2)∧w'.cell? ⟨bc,oc + i * 10 + 9,none⟩=some (.slice B2 b2.len cb2)) ((exact HW.out _ exA)) ((first | (go_at_call 73; refine (HE.out _ exA).mono ?_; rintro r w6 ⟨rfl,x6⟩)))
    go_wp2_with fail
    go_meet
    exact ⟨rfl,(Ext.refl wr).drew.trans x6⟩
   case rest =>
    obtain ⟨rfl,X1⟩:=hcut
    cases e
    case false =>
     obtain rfl:R=false:=E1.out.symm
     go_wp2_with fail
     go_ret
     exact ⟨rfl,X.out.trans X1.out⟩
    case true =>
     have E2:Hid (eqN r1 s1=R):=E1.out
     go_wp2_with fail
     go_roundw
     case rel=>exact ⟨i + 1,r1,s1,by first | rfl | (rw [hwi]; rfl),LS.out.mono (vp_ext X1.out),MS.out.mono (vp_ext X1.out),X.out.trans X1.out,E2,hrs.2,HL1⟩
     case measure=>(try rw [hwi]); rw [iof_succ,iof_nat]; exact Nat.sub_lt_sub_left hlt (Nat.lt_succ_self i)
  ·obtain rfl:=L.out.fin hlt
   obtain rfl:=M.out.fin hlt
   have hltI:¬ (i:Int) < (N:Int):=by omega
   obtain rfl:R=true:=hE.out.symm
   go_wp2_with fail
   go_ret
   exact ⟨rfl,X.out⟩
end Go.Proofs.YtmmnhbhnjiajhaaGreatDoor.c
