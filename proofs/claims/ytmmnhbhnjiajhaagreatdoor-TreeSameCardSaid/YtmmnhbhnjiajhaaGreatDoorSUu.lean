/- A program's declarations. Going through a list of nodes in memory, one by one. No condition. What is read has no more nodes than tokens. No condition. -/
import Derived.Test.YtmmnhbhnjiajhaaGreatDoorSUt
import Derived.Deep.LoopGhost
import Derived.Test.YtmmnhbhnjiajhaaGreatDoorSTq
namespace Go.Proofs.YtmmnhbhnjiajhaaGreatDoor.c
open Go.RowKit
set_option linter.unusedVariables false
set_option maxRecDepth 100000
set_option maxHeartbeats 3200000
set_option linter.unusedSimpArgs false
noncomputable def dclS (L:List Tok) (a:Nat):Option Rs:=if tx L a=⟨#[99,111,110,115,116]⟩ then cdS L (a + 1) else wnt L a ⟨#[102,110]⟩ (fnS L (a + 1))
theorem decl_any {C:Cx} {a:Nat} {w:World} (h:PS C a w):Calls Tryz.prog 64 #[Pp C] w (Out C w 5 (dclS C.L a)):=by
 by_cases hc:tx C.L a=⟨#[99,111,110,115,116]⟩
 ·rw [show dclS C.L a=cdS C.L (a + 1) from if_pos hc]
  exact decl_const h hc
 by_cases hf:tx C.L a=⟨#[102,110]⟩
 ·rw [show dclS C.L a=fnS C.L (a + 1) from (if_neg hc).trans (if_pos hf)]
  exact decl_fn h hf
 have E:Hid (dclS C.L a=some (.bad a)):=(if_neg hc).trans (if_neg hf)
 have hlt:=h.lt
 have R0:Hid (Rx C w 38 zDe a (w.alloc (.cells zDe 38))):=Rx.init h _ _
 clear h
 go_enter Tryz.func64,Tryz.ntmps64
 go_wp2_with (first
  | (go_at_call 113; refine (next_any R0.out.ps ⟨#[99,111,110,115,116]⟩ (by decide)).mono ?_; rintro r w1 (⟨hq,rfl,m1⟩ | ⟨_,rfl,m1⟩); exact absurd hq hc; have R1:=Lib.hid (R0.out.to m1 hlt))
  | ((with_reducible show Calls _ _ #[_,.string ⟨#[102,110]⟩] _ _); refine (want_any R1.out.ps ⟨#[102,110]⟩ (by decide)).mono ?_; rintro r w2 (⟨hq,rfl,m2⟩ | ⟨_,rfl,m2⟩); exact absurd hq hf; have R2:=Lib.hid (R1.out.to m2 hlt)))
 exact And.intro rfl (fin_bad R2.out.mv E.out)
theorem cdS_le {L:List Tok} {a:Nat}:Po (fun _ c=>a ≤ c) (cdS L a):=by
 unfold cdS
 exact Po.nam fun _=>Po.wnt fun _=>Po.thnT fun t b ht=>Po.wnt fun _=>Po.thn (gram_le _ _) fun x c hc=>Po.wnt fun _=>Po.ok (by have:=typS_lt ht; omega)
theorem prS_le {L:List Tok}:∀ (n:Nat) (acc:Nd) (b:Nat),L.length - b ≤ n → Po (fun _ c=>b ≤ c) (prS L acc b)
 | n,acc,b,hn=>by
  intro x c h
  cases hp:paS L b with
  | none=>rw [prS,hp] at h; cases h
  | some r =>
   cases r with
   | bad k=>rw [prS_bad hp] at h; cases h
   | ok y d =>
    have hl:=paS_comma hp
    rw [prS_ok hp] at h
    split at h
    ·cases h; omega
    ·unfold wnt at h
     split at h
     ·rename_i h1 h2
      have hd:=lt_tx h2 (by decide)
      cases n with
      | zero=>omega
      | succ n=>have:=prS_le n _ _ (by omega) x c h; omega
     ·cases h
theorem fnF_le {L:List Tok} {nm:ByteArray} {ps:Nd} {b:Nat}:Po (fun _ c=>b ≤ c) (fnF L nm ps b):=by
 unfold fnF
 exact Po.thnT fun t c ht=>Po.thn (gram_le _ _) fun z d hd=>Po.ok (by have:=typS_lt ht; omega)
theorem fnS_le {L:List Tok} {a:Nat}:Po (fun _ c=>a ≤ c) (fnS L a):=by
 unfold fnS
 exact Po.nam fun _=>Po.wnt fun _=>Po.ite (fun _=>fnF_le.mono fun _ _ h=>by omega) (fun _=>Po.thn (prS_le _ _ _ (Nat.le_refl _)) fun ps b hb=>fnF_le.mono fun _ _ h=>by omega)
theorem dclS_lt {L:List Tok} {a:Nat}:Po (fun _ c=>a < c) (dclS L a):=by
 unfold dclS
 exact Po.ite (fun _=>cdS_le.mono fun _ _ h=>by omega) (fun _=>Po.wnt fun _=>fnS_le.mono fun _ _ h=>by omega)
noncomputable def prgS (L:List Tok) (acc:Nd) (a:Nat):Option Rs :=
 if h:a < L.length then
  match dclS L a with
  | none=>none
  | some (.bad k)=>some (.bad k)
  | some (.ok x c)=>if hc:a < c then prgS L (acc.app x) c else some (.bad c)
 else some (.ok acc a)
termination_by L.length - a
theorem prgS_bad {L:List Tok} {acc:Nd} {a k:Nat} (ha:a < L.length) (h:dclS L a=some (.bad k)):prgS L acc a=some (.bad k):=by
 rw [prgS,dif_pos ha,h]
theorem prgS_ok {L:List Tok} {acc x:Nd} {a c:Nat} (ha:a < L.length) (h:dclS L a=some (.ok x c)):prgS L acc a=prgS L (acc.app x) c:=by
 rw [prgS,dif_pos ha,h]
 simp only
 rw [dif_pos (dclS_lt x c h)]
theorem prgS_end {L:List Tok} {acc:Nd} {a:Nat} (ha:¬ a < L.length):prgS L acc a=some (.ok acc a):=by
 rw [prgS,dif_neg ha]
theorem arr19 {cs:Array Value} (h:cs.size=19):∃ a b c d e f g i j k l m n o p q r s t,cs=#[a,b,c,d,e,f,g,i,j,k,l,m,n,o,p,q,r,s,t]:=by
 obtain ⟨L⟩:=cs
 match L,h with
 | [a,b,c,d,e,f,g,i,j,k,l,m,n,o,p,q,r,s,t],_=>exact ⟨a,b,c,d,e,f,g,i,j,k,l,m,n,o,p,q,r,s,t,rfl⟩
theorem fill_19 (a b c d e f g i j k l m n o p q r s t:Value):Instr.fill (fun i=>some (i * 19,19)) ((Array.range (1 * 19)).map ((Value.agg zDe).cells[· % (Value.agg zDe).cells.size]!)) [(0,.agg #[a,b,c,d,e,f,g,i,j,k,l,m,n,o,p,q,r,s,t])]=some #[a,b,c,d,e,f,g,i,j,k,l,m,n,o,p,q,r,s,t]:=by kernel_rfl
theorem infoDz:(Tryz.prog.info? 38).map (fun i=>(i.zero,i.size,i.bytes))=some (some (.agg zDe),19,232):=by kernel_rfl
theorem wpList_bsD {ops:Array Oper} {rest:List Oper} {o:Oper} {a:Act} {Q:Exit → Act → World → Prop} {w:World} (hgd:o.guard=none) (x:Operand) (ho:o.op=.buildSlice 23 1 #[(0,x)]) (cs:Array Value) (hx:a.eval x=.agg cs) (hs:cs.size=19)
  (h:wpList Tryz.prog ops Q rest (a.put o.dst (.slice (some ⟨w.heap.size,0,none⟩) 1 1)) (w.alloc (.cells cs 38))):wpList Tryz.prog ops Q (o :: rest) a w:=by
 refine wpList_plain hgd fun K hK=>?_
 obtain ⟨i0,hi0,hz0,hz1,hz2⟩:=info_parts infoDz
 obtain ⟨a0,b0,c0,d0,e0,f0,g0,i1,j0,k0,l0,m0,n0,o0,p0,q0,r0,s0,t0,rfl⟩:=arr19 hs
 refine wp_buildSlice _ 38 1 _ ho _ i0 _ Tryz.underlying23 hi0 hz0 (by rw [hz1]; decide) (by rw [hz1]; decide) ?_ (hK _ _ h)
 rw [hz1,show (#[(0,x)].map fun (i,x)=>(i,a.eval x)).toList=[(0,.agg #[a0,b0,c0,d0,e0,f0,g0,i1,j0,k0,l0,m0,n0,o0,p0,q0,r0,s0,t0])] by simp [hx]]
 exact fill_19 ..
structure PgSt (C:Cx) (w:World) (v:Value) (acc:Nd) (b:Nat) (wr:World):Prop where
 mv:Mv C w b wr
 gw:Gw w.heap.size 38 5 v acc wr
section
variable {C:Cx} {w wr w2 w4 w':World} {b c:Nat} {v v':Value} {acc x:Nd} {cs:Array Value} {xs:List Value}
theorem PgSt.to (h:PgSt C w v acc b wr) (k:Mv C wr c w2) (hm:C.m < w.heap.size):PgSt C w v acc c w2:=⟨h.mv.trans k,h.gw.px k.px hm⟩
theorem PgSt.ext (h:PgSt C w v acc b wr) (k:Ext wr w2):PgSt C w v acc b w2:=⟨h.mv.to k,h.gw.ext k⟩
theorem PgSt.put (h:PgSt C w v acc b w2) (k:Mv C w2 c w4) (hm:C.m < w.heap.size) (hnv:Nv (vp (w2.heap.size ≤ ·) w4) 5 x cs)
  (h1:(w4.alloc (.cells cs 38)).ownsRow w.heap.size 38 (szK 5) v acc.len xs) (h2:Elems (vp (fun i=>w.heap.size ≤ i∧v.ownBlock ≠ some i) (w4.alloc (.cells cs 38))) acc 5 xs)
  (r1:w'.ownsRow w.heap.size 38 (szK 5) v' (acc.len + 1) (xs ++ cs.toList)) (r2:(w4.alloc (.cells cs 38)).grownBy w' v.ownBlock) (r3:v'.ownBlock=v.ownBlock ∨ v'.ownBlock=some (w4.alloc (.cells cs 38)).heap.size):PgSt C w v' (acc.app x) c w':=by
 have hS:=(h.to k hm).ext ((Ext.refl w4).alloc (.cells cs 38))
 have hz:=h.mv.px.size
 have hgw:Gw w.heap.size 38 5 v' (acc.app x) w':=Gw.grown h1 h2 (hnv.ext ((Ext.refl w4).alloc _) fun _ hi _=>hi) hz (fun _ hq=>(h.gw.own_lt hq).2) r1 r2 r3
 exact ⟨hS.mv.grown r2 (fun q hq=>(h.gw.own_lt hq).1) hm,hgw⟩
end
theorem program_any {C:Cx} {a:Nat} {w:World} (h:PS C a w):Calls Tryz.prog 32 #[Pp C] w (OutL C w 5 (prgS C.L .nil a)):=by
 have HZ:Hid ((Tryz.prog.info? 38).map (·.size)=some 19):=by unfold Hid; kernel_rfl
 have hlt:=h.lt
 have hlen:=C.len
 have P0:Hid (PgSt C w sl0 .nil a w):=⟨h.mv (Ext.refl w),Gw.nil _ _ _ _⟩
 generalize hr0:prgS C.L .nil a=r0
 have E0:=Lib.hid hr0.symm
 have hle0:=h.le
 clear h hr0
 go_enter Tryz.func32,Tryz.ntmps32
 go_wp2_with fail
 go_loopg [3] (C.L.length - a) (fun n v wr=>∃ acc b A c,v=.slice A acc.len c∧Hid (r0=prgS C.L acc b)∧acc.len ≤ b∧b ≤ C.L.length∧C.L.length - b ≤ n∧Hid (PgSt C w (.slice A acc.len c) acc b wr))
 case atStart=>exact ⟨.nil,a,none,0,rfl,E0,Nat.zero_le _,hle0,Nat.le_refl _,P0⟩
 case round =>
  clear P0 E0
  obtain ⟨acc,b,A,c,rfl,E,hln,hbl,hn,P1⟩:=hrel
  obtain ⟨hm0,d0,d1,hf0⟩:=P1.out.mv.ps.facts
  by_cases hb:b < C.L.length
  ·have hbi:(b:Int) < (C.L.length:Int):=by omega
   go_upto_region 3 with (first | go_quiet (fail))
   have P2:=Lib.hid (P1.out.ext ((Ext.refl wr).drewN nq))
   clear P1 d0 d1 hf0 hm0
   obtain ⟨wd,hwd⟩:∃ wd,wr.drewN nq=wd:=⟨_,rfl⟩
   rw [hwd] at P2 ⊢
   clear hwd
   go_wp2_with (first
    | (go_at_call 64; refine (decl_any P2.out.mv.ps).mono ?_; rintro r w4 (⟨x,c4,cs,hg4,rfl,hnv,m4⟩ | ⟨c4,hg4,rfl,m4⟩))
    | ((with_reducible show wpList _ _ _ (Oper.mk (some 19) (.buildSlice _ _ _) _ _ _ _ :: _) _ _); refine wpList_bsD rfl _ rfl cs rfl hnv.size ?_)
    | ((with_reducible show wpList _ _ _ (Oper.mk (some 20) (.call _) _ _ _ _ :: _) _ _)
       obtain ⟨xs,o1,o2⟩:=(P2.out.to m4 hlt).gw.ext ((Ext.refl w4).alloc (.cells cs 38))
       have hz4:=(P2.out.to m4 hlt).mv.px.size
       refine wpList_app1 Tryz.underlying23 infoDz rfl (by decide) (by decide) rfl _ _ rfl w.heap.size _ acc.len xs rfl o1 _ _ cs rfl (Blk.new w4 _ cs) hnv.size hnv.one (by omega) (by simp only [World.size_alloc]; omega) ?_
       intro v' w' r1 r2 r3
       have P3:=Lib.hid (P2.out.put m4 hlt hnv o1 o2 r1 r2 r3)
       obtain ⟨A',k',rfl⟩:=P3.out.gw.shapeN))
   ·have E2:=Lib.hid (E.out.trans (prgS_ok hb hg4.out))
    have hlt4:=dclS_lt _ _ hg4.out
    have hle4:=P3.out.mv.ps.le
    go_roundg (gk - 1)
    case measure=>omega
    case rel=>exact ⟨acc.app x,c4,_,_,rfl,E2,by rw [app_len,hnv.2]; omega,hle4,by omega,P3⟩
   ·exact And.intro rfl (.inr ⟨c4,E.out.trans (prgS_bad hb hg4.out),rfl,P2.out.mv.trans m4⟩)
  ·have hbi:¬ (b:Int) < (C.L.length:Int):=by omega
   go_upto_region 4 with (first | go_quiet (fail))
   have P2:=Lib.hid (P1.out.ext ((Ext.refl wr).drewN nq))
   go_wp2_with fail
   go_ret
   exact .inl ⟨acc,b,_,E.out.trans (prgS_end hb),rfl,P2.out.gw.sl,P2.out.mv⟩
def Nd.hd:Nd → Nd
 | .nil=>.nil
 | .ex o t n k a b _=>.ex o t n k a b .nil
 | .st o n t a b c _=>.st o n t a b c .nil
 | .bl b _=>.bl b .nil
 | .ca l h b _=>.ca l h b .nil
 | .pa n t k _=>.pa n t k .nil
 | .de f n p t v b _=>.de f n p t v b .nil
def Nd.tl:Nd → Nd
 | .nil=>.nil
 | .ex _ _ _ _ _ _ r=>r
 | .st _ _ _ _ _ _ r=>r
 | .bl _ r=>r
 | .ca _ _ _ r=>r
 | .pa _ _ _ r=>r
 | .de _ _ _ _ _ _ r=>r
def Nd.sz:Nd → Nat
 | .nil=>0
 | .ex _ _ _ _ a b tl=>a.sz + b.sz + tl.sz + 1
 | .st _ _ _ a b c tl=>a.sz + b.sz + c.sz + tl.sz + 1
 | .bl b tl=>b.sz + tl.sz + 1
 | .ca _ _ b tl=>b.sz + tl.sz + 1
 | .pa _ _ _ tl=>tl.sz + 1
 | .de _ _ p _ v b tl=>p.sz + v.sz + b.sz + tl.sz + 1
theorem len_nil {x:Nd} (h:¬ 0 < x.len):x=.nil:=by cases x <;> simp [Nd.len] at h ⊢
theorem hd_len {x:Nd} (h:0 < x.len):x.hd.len=1:=by cases x <;> simp [Nd.len,Nd.hd] at h ⊢
theorem tl_len {x:Nd} (h:0 < x.len):x.tl.len + 1=x.len:=by cases x <;> simp [Nd.len,Nd.tl] at h ⊢
theorem hd_sz {x:Nd} (h:0 < x.len):x.hd.sz + x.tl.sz=x.sz:=by cases x <;> simp [Nd.len,Nd.tl,Nd.hd,Nd.sz] at h ⊢ <;> omega
theorem tl_one {x:Nd} (h:x.len=1):x.tl=.nil:=len_nil (by have:=tl_len (x:=x) (by omega); omega)
theorem Elems.split {V:Vw} {k:Nat}:∀ {x:Nd} {xs:List Value},Elems V x k xs → 0 < x.len → ∃ ys zs,xs=ys ++ zs∧Elems V x.hd k ys∧Elems V x.tl k zs
 | .nil,xs,_,h=>by simp [Nd.len] at h
 | .ex op ty nm n a b tl,xs,⟨hk,va,vb,r,e,h1,h2,h3⟩,_=>⟨_,r,e,⟨hk,va,vb,[],by simp,h1,h2,rfl⟩,by subst hk; exact h3⟩
 | .st op nm ty es bs cs tl,xs,⟨hk,va,vb,vc,r,e,h1,h2,h4,h3⟩,_=>⟨_,r,e,⟨hk,va,vb,vc,[],by simp,h1,h2,h4,rfl⟩,by subst hk; exact h3⟩
 | .bl b tl,xs,⟨hk,vb,r,e,h1,h3⟩,_=>⟨_,r,e,⟨hk,vb,[],by simp,h1,rfl⟩,by subst hk; exact h3⟩
 | .ca lo hi b tl,xs,⟨hk,vb,r,e,h1,h3⟩,_=>⟨_,r,e,⟨hk,vb,[],by simp,h1,rfl⟩,by subst hk; exact h3⟩
 | .pa nm ty kn tl,xs,⟨hk,r,e,h3⟩,_=>⟨_,r,e,⟨hk,[],by simp,rfl⟩,by subst hk; exact h3⟩
 | .de fn nm ps ty val b tl,xs,⟨hk,vp,ys,vb,r,e,h1,h0,h2,h4,h3⟩,_=>⟨_,r,e,⟨hk,vp,ys,vb,[],by simp,h1,h0,h2,h4,rfl⟩,by subst hk; exact h3⟩
def Lp (V:Vw) (A:Option Addr) (n k i:Nat) (r:Nd):Prop:=i + r.len=n∧∃ xs,Rw V A xs∧i * szK k ≤ xs.length∧Elems V r k (xs.drop (i * szK k))
theorem Lp.mono {V V':Vw} (h:V.le V') {A:Option Addr} {n k i:Nat} {r:Nd} (l:Lp V A n k i r):Lp V' A n k i r:=by
 obtain ⟨h1,xs,h2,h4,h3⟩:=l
 exact ⟨h1,xs,h2.mono h,h4,Elems.mono h r k _ h3⟩
theorem Sl.lp {V:Vw} {v:Value} {x:Nd} {k:Nat} (s:Sl V v x k):∃ A c,v=.slice A x.len c∧Lp V A x.len k 0 x:=by
 obtain ⟨A,c,xs,e,h1,h2⟩:=s
 exact ⟨A,c,e,Nat.zero_add _,xs,h1,by simp,by simpa using h2⟩
theorem Lp.fin {V:Vw} {A:Option Addr} {n k i:Nat} {r:Nd} (l:Lp V A n k i r) (h:¬ i < n):r=.nil:=len_nil (by have:=l.1; omega)
theorem Lp.step {V:Vw} {A:Option Addr} {n k i:Nat} {r:Nd} (l:Lp V A n k i r) (h:i < n):∃ b o cs,A=some ⟨b,o,none⟩∧Nv V k r.hd cs∧(∀ j v,cs.toList[j]?=some v → V b (o + i * szK k + j)=some v)∧Lp V A n k (i + 1) r.tl:=by
 obtain ⟨h1,xs,h2,h4,h3⟩:=l
 have hr:0 < r.len:=by omega
 obtain ⟨ys,zs,e,h5,h6⟩:=h3.split hr
 have hys:ys.length=szK k:=by rw [Elems.length _ _ _ h5,hd_len hr,Nat.one_mul]
 have hk:0 < szK k:=by unfold szK; split <;> (try split) <;> (try split) <;> (try split) <;> omega
 have hxs:xs ≠ []:=fun e0=>by
  rw [e0,List.drop_nil] at e
  have:=congrArg List.length e
  simp at this
  omega
 obtain ⟨b,o,eA,hc⟩:=h2 hxs
 refine ⟨b,o,ys.toArray,eA,⟨by simpa using h5,hd_len hr⟩,fun j v hv=>?_,by have:=tl_len hr; omega,xs,h2,?_,?_⟩
 ·rw [Nat.add_assoc]
  refine hc _ _ ?_
  have hj:j < ys.length:=(List.getElem?_eq_some_iff.1 hv).1
  rw [← List.getElem?_drop,e,List.getElem?_append_left hj]
  simpa using hv
 ·have:=congrArg List.length e
  rw [List.length_drop,List.length_append,hys] at this
  rw [Nat.succ_mul]
  omega
 ·have e2:xs.drop ((i + 1) * szK k)=zs:=by
   rw [Nat.succ_mul,← List.drop_drop,e,← hys,List.drop_left]
  rw [e2]
  exact h6
theorem vp_some {p:Nat → Prop} {w:World} {b i:Nat} {v:Value} (h:vp p w b i=some v):p b∧w.cell? ⟨b,i,none⟩=some v:=by
 unfold vp at h
 split at h
 ·exact ⟨‹_›,h⟩
 ·cases h
theorem nv_exI {V:Vw} {op:Int} {ty:Ty} {nm:ByteArray} {n:Int} {a b:Nd} {cs:Array Value} (h:Nv V 0 (.ex op ty nm n a b .nil) cs):∃ va vb,cs=#[.int .i64 op,.int .i64 ty.base,.int .i64 ty.bits,.string ty.name,.bool ty.opt,.bool ty.err,.string nm,.int .i64 n,va,vb]∧Sl V va a 0∧Sl V vb b 1:=by
 obtain ⟨⟨_,va,vb,r,e,h1,h2,h3⟩,_⟩:=h
 obtain rfl:r=[]:=h3
 exact ⟨va,vb,by rw [← Array.toArray_toList (xs:=cs),e]; rfl,h1,h2⟩
theorem nv_stI {V:Vw} {op:Int} {ty:Ty} {nm:ByteArray} {a b c:Nd} {cs:Array Value} (h:Nv V 1 (.st op nm ty a b c .nil) cs):∃ va vb vc,cs=#[.int .i64 op,.string nm,.int .i64 ty.base,.int .i64 ty.bits,.string ty.name,.bool ty.opt,.bool ty.err,va,vb,vc]∧Sl V va a 0∧Sl V vb b 2∧Sl V vc c 3:=by
 obtain ⟨⟨_,va,vb,vc,r,e,h1,h2,h4,h3⟩,_⟩:=h
 obtain rfl:r=[]:=h3
 exact ⟨va,vb,vc,by rw [← Array.toArray_toList (xs:=cs),e]; rfl,h1,h2,h4⟩
theorem nv_blI {V:Vw} {b:Nd} {cs:Array Value} (h:Nv V 2 (.bl b .nil) cs):∃ vb,cs=#[vb]∧Sl V vb b 1:=by
 obtain ⟨⟨_,vb,r,e,h1,h3⟩,_⟩:=h
 obtain rfl:r=[]:=h3
 exact ⟨vb,by rw [← Array.toArray_toList (xs:=cs),e]; rfl,h1⟩
theorem nv_caI {V:Vw} {lo hi:Int} {b:Nd} {cs:Array Value} (h:Nv V 3 (.ca lo hi b .nil) cs):∃ vb,cs=#[.int .i64 lo,.int .i64 hi,vb]∧Sl V vb b 1:=by
 obtain ⟨⟨_,vb,r,e,h1,h3⟩,_⟩:=h
 obtain rfl:r=[]:=h3
 exact ⟨vb,by rw [← Array.toArray_toList (xs:=cs),e]; rfl,h1⟩
theorem nv_deI {V:Vw} {fn:Bool} {nm:ByteArray} {ty:Ty} {ps x b:Nd} {cs:Array Value} (h:Nv V 5 (.de fn nm ps ty x b .nil) cs):∃ vps ys vb,cs=#[.bool fn,.string nm,vps,.int .i64 ty.base,.int .i64 ty.bits,.string ty.name,.bool ty.opt,.bool ty.err] ++ ys ++ #[vb]∧Sl V vps ps 4∧Nv V 0 x ys∧Sl V vb b 1:=by
 obtain ⟨⟨_,vps,ys,vb,r,e,h1,h0,h2,h4,h3⟩,_⟩:=h
 obtain rfl:r=[]:=h3
 exact ⟨vps,ys.toArray,vb,by rw [← Array.toArray_toList (xs:=cs),e]; simp,h1,⟨by simpa using h2,h0⟩,h4⟩
theorem app_sz:∀ x y:Nd,(x.app y).sz=x.sz + y.sz
 | .nil,y=>by rw [Nd.app,Nd.sz]; omega
 | .ex o t n k a b tl,y=>by rw [Nd.app,Nd.sz,Nd.sz,app_sz tl]; omega
 | .st o n t a b c tl,y=>by rw [Nd.app,Nd.sz,Nd.sz,app_sz tl]; omega
 | .bl b tl,y=>by rw [Nd.app,Nd.sz,Nd.sz,app_sz tl]; omega
 | .ca l h b tl,y=>by rw [Nd.app,Nd.sz,Nd.sz,app_sz tl]; omega
 | .pa n t k tl,y=>by rw [Nd.app,Nd.sz,Nd.sz,app_sz tl]; omega
 | .de f n p t v b tl,y=>by rw [Nd.app,Nd.sz,Nd.sz,app_sz tl]; omega
def accZ:Nt → Nat
 | .ops _ _ x=>x.sz
 | .post x=>x.sz
 | .args x=>x.sz
 | .sts x=>x.sz
 | .css x=>x.sz
 | _=>0
def extZ:Nt → Nat
 | .blk=>2
 | .sts _=>1
 | _=>0
theorem ite_some {α:Type} {c:Prop} [Decidable c] {y z:α} (h:(if c then some y else none)=some z):y=z:=by
 split at h
 ·exact Option.some.inj h
 ·cases h
theorem litS_sz {s:ByteArray} {g:Bool} {x:Nd} (h:litS s g=some x):x.sz=1:=by
 unfold litS at h
 simp only at h
 rw [← ite_some h]
 rfl
section
variable {L:List Tok}
theorem gram_sz (t:Nt) (a:Nat):Po (fun x c=>x.sz + a + extZ t ≤ accZ t + c) (gram L t a):=by
 refine gram_post (fun t a x c=>x.sz + a + extZ t ≤ accZ t + c) (fun P hP t a=>?_) t a
 cases t <;> simp only [stepG,unrS,primS,stmS,varS,loopS,retS,choiceS,cssS,parS,valS,builtinS] <;>
  repeat' first
   | exact Po.bad _
   | refine Po.ite (fun _=>?_) (fun _=>?_)
   | refine Po.wnt fun _=>?_
   | refine Po.nam fun _=>?_
   | (refine Po.thnO fun _ h=>?_; have:=litS_sz h)
   | (refine Po.thn (hP _ _) fun _ _ hc=>?_; simp only [accZ,extZ,Nd.sz] at hc)
   | (refine Po.thnT fun _ _ h=>?_; have:=typS_lt h)
   | (refine Po.thnT fun _ _ h=>?_; have:=cnumS_lt h)
   | (refine Po.thnT fun _ _ h=>?_; have:=cnumS_if h)
   | exact Po.ok (by simp only [Nd.sz,exN,stN,accZ,extZ,app_sz]; omega)
   | exact (hP _ _).mono fun _ _ k=>(by simp only [accZ,extZ,Nd.sz,exN,app_sz] at k ⊢; omega)
theorem lvl_sz (a:Nat):Po (fun x c=>x.sz + a ≤ c) (gram L (.lvl 0) a):=(gram_sz (.lvl 0) a).mono fun _ _ h=>by simp only [accZ,extZ] at h; omega
theorem blk_sz (a:Nat):Po (fun x c=>x.sz + a + 2 ≤ c) (gram L .blk a):=(gram_sz .blk a).mono fun _ _ h=>by simp only [accZ,extZ] at h; omega
theorem paS_sz {a:Nat}:Po (fun x c=>x.sz + a ≤ c) (paS L a):=by
 have h2:∀ kn b,a ≤ b → Po (fun x c=>x.sz + a ≤ c) (paS2 L kn b):=fun kn b hb=>Po.nam fun _=>Po.wnt fun _=>Po.thnT fun t d ht=>Po.ok (by have:=typS_lt ht; simp only [Nd.sz]; omega)
 exact Po.ite (fun _=>h2 _ _ (by omega)) (fun _=>h2 _ _ (Nat.le_refl _))
theorem prS_sz:∀ (n:Nat) (acc:Nd) (b:Nat),L.length - b ≤ n → Po (fun x c=>x.sz + b ≤ acc.sz + c) (prS L acc b)
 | n,acc,b,hn=>by
  intro x c h
  cases hp:paS L b with
  | none=>rw [prS,hp] at h; cases h
  | some r =>
   cases r with
   | bad k=>rw [prS_bad hp] at h; cases h
   | ok y d =>
    have hl:=paS_comma hp
    have hz:=paS_sz y d hp
    rw [prS_ok hp] at h
    split at h
    ·cases h; rw [app_sz]; omega
    ·unfold wnt at h
     split at h
     ·rename_i h1 h2
      have hd:=lt_tx h2 (by decide)
      cases n with
      | zero=>omega
      | succ n=>have:=prS_sz n _ _ (by omega) x c h; rw [app_sz] at this; omega
     ·cases h
theorem fnF_sz {nm:ByteArray} {ps:Nd} {b:Nat}:Po (fun x c=>x.sz + b ≤ ps.sz + c) (fnF L nm ps b):=by
 unfold fnF
 exact Po.thnT fun t c ht=>Po.thn (blk_sz _) fun z d hd=>Po.ok (by have:=typS_lt ht; simp only [Nd.sz,zNd]; omega)
theorem dclS_sz {a:Nat}:Po (fun x c=>x.sz + a ≤ c) (dclS L a):=by
 unfold dclS cdS fnS
 refine Po.ite (fun _=>Po.nam fun _=>Po.wnt fun _=>Po.thnT fun t b ht=>Po.wnt fun _=>Po.thn (lvl_sz _) fun x c hc=>Po.wnt fun _=>Po.ok (by have:=typS_lt ht; simp only [Nd.sz]; omega)) (fun _=>Po.wnt fun _=>Po.nam fun _=>Po.wnt fun _=>Po.ite (fun _=>fnF_sz.mono fun _ _ h=>?_) (fun _=>Po.thn (prS_sz _ _ _ (Nat.le_refl _)) fun ps b hb=>fnF_sz.mono fun _ _ h=>?_))
 ·simp only [Nd.sz] at h; omega
 ·simp only [Nd.sz] at hb; omega
theorem prgS_sz:∀ (n:Nat) (acc:Nd) (a:Nat),L.length - a ≤ n → a ≤ L.length → Po (fun x c=>x.sz + a ≤ acc.sz + c∧(c ≤ L.length → x.sz + a ≤ acc.sz + L.length)) (prgS L acc a)
 | n,acc,a,hn,ha=>by
  intro x c h
  by_cases hlt:a < L.length
  ·cases hp:dclS L a with
   | none=>rw [prgS,dif_pos hlt,hp] at h; cases h
   | some r =>
    cases r with
    | bad k=>rw [prgS_bad hlt hp] at h; cases h
    | ok y d =>
     have hl:=dclS_lt y d hp
     have hz:=dclS_sz y d hp
     rw [prgS_ok hlt hp] at h
     by_cases hd:d ≤ L.length
     ·cases n with
      | zero=>omega
      | succ n=>have:=prgS_sz n _ _ (by omega) hd x c h; rw [app_sz] at this; omega
     ·rw [prgS_end (by omega)] at h
      cases h
      rw [app_sz]
      omega
  ·rw [prgS_end hlt] at h
   cases h
   omega
end
end Go.Proofs.YtmmnhbhnjiajhaaGreatDoor.c
