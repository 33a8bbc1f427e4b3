/- Memory of a run of the stack machine, and laws on it. No condition. The end of a run of the stack machine: its result and its log; a call that is too deep. No condition. -/
import Derived.Test.YtcoookehfhhhdaaGreatDoorSkL
import Derived.Test.YtcoookehfhhhdaaGreatDoorGm
import Derived.Test.YtcoookehfhhhdaaGreatDoorRgD
import Derived.OwnWalk
import Derived.Test.YtcoookehfhhhdaaGreatDoorHm
namespace Go.Proofs.YtcoookehfhhhdaaGreatDoor.c
open Go.RowKit
set_option linter.unusedVariables false
set_option maxRecDepth 100000
set_option maxHeartbeats 3200000
set_option linter.unusedSimpArgs false
def itC (v:Val) (j:Nat):Value:=if j=0 then .int .i64 v.n else if j=1 then .bool v.null else .string v.err
def intC (i:Int) (_:Nat):Value:=.int .i64 i
theorem itC_ones (v:Val) (j:Nat):(itC v j).oneCell'=true:=by
 unfold itC
 split
 ·rfl
 ·split <;> rfl
theorem info_it:(Tryz.prog.info? 86).map (fun i=>(i.zero,i.size,i.bytes))=some (some (.agg #[.int .i64 0,.bool false,.string ⟨#[]⟩]),3,32):=by kernel_rfl
section
variable {ops:Array Oper} {rest:List Oper} {o:Oper} {a:Act} {Q:Exit → Act → World → Prop} {w:World}
theorem wpList_append_its (hgd:o.guard=none) (s x:Operand) (ho:o.op=.call { callee:=.builtin .append,args:=#[s,x],argTypes:=#[87,87] })
  (base:Nat) (v:Value) (M N:List Val) (hs:a.eval s=v) (hown:w.ownsRow base 86 3 v M.length (recCells 3 itC M)) (g off n c:Nat) (hn:n=N.length) (hx:a.eval x=.slice (some ⟨g,off,none⟩) n c)
  (hN:∀ i j,i < N.length → j < 3 → w.cell? ⟨g,off + (i * 3 + j),none⟩=some (itC (N.getD i default) j)) (hb:M.length + N.length ≤ 1000000) (hbase:base ≤ w.heap.size)
  (h:∀ v' w',w'.ownsRow base 86 3 v' (M ++ N).length (recCells 3 itC (M ++ N)) → w.grownBy w' v.ownBlock → wpList Tryz.prog ops Q rest (a.put o.dst v') w'):wpList Tryz.prog ops Q (o :: rest) a w:=by
 obtain ⟨i0,hi0,hz0,hz1,hz2⟩:=info_parts info_it
 subst hn
 refine wpList_append_own w hgd s x 87 ho base 86 i0 _ 3 32 Tryz.underlying87 hi0 hz0 hz1 hz2 rfl (by decide) v M.length _ hs hown ⟨g,off,none⟩ N.length c (recCells 3 itC N) hx (recCells_len 3 itC N) (news_rec hN) (recCells_ones itC_ones N) (by unfold maxLen; omega) (by omega) hbase ?_
 intro v' w' h2 h3 _
 refine h v' w' ?_ h3
 rw [recCells_append,List.length_append]
 exact h2
theorem wpList_append_ns (hgd:o.guard=none) (s x:Operand) (ho:o.op=.call { callee:=.builtin .append,args:=#[s,x],argTypes:=#[65,65] })
  (base:Nat) (v:Value) (M N:List Int) (hs:a.eval s=v) (hown:w.ownsRow base 3 1 v M.length (recCells 1 intC M)) (g n c:Nat) (hn:n=N.length) (hx:a.eval x=.slice (some ⟨g,0,none⟩) n c)
  (hN:RecRow w g 3 1 intC N) (hb:M.length + N.length ≤ 1000000) (hbase:base ≤ w.heap.size)
  (h:∀ v' w',w'.ownsRow base 3 1 v' (M ++ N).length (recCells 1 intC (M ++ N)) → w.grownBy w' v.ownBlock → wpList Tryz.prog ops Q rest (a.put o.dst v') w'):wpList Tryz.prog ops Q (o :: rest) a w:=by
 obtain ⟨i0,hi0,hz0,hz1,hz2⟩:=info_parts info_int
 subst hn
 refine wpList_append_own w hgd s x 65 ho base 3 i0 _ 1 8 Tryz.underlying65 hi0 hz0 hz1 hz2 rfl (by decide) v M.length _ hs hown ⟨g,0,none⟩ N.length c (recCells 1 intC N) hx (recCells_len 1 intC N) (news_rec fun i j hi hj=>by rw [Nat.zero_add]; exact hN.cell hi hj) (recCells_ones (fun _ _=>rfl) N) (by unfold maxLen; omega) (by omega) hbase ?_
 intro v' w' h2 h3 _
 refine h v' w' ?_ h3
 rw [recCells_append,List.length_append]
 exact h2
end
theorem own_nothing (W:World) {z:Nat} (base:Nat) (t:TypeId) (sz:Nat) {α:Type} [Inhabited α] (C:α → Nat → Value) (hz:z=W.heap.size) (hb:base ≤ z) :
  (W.alloc (.cells #[] t)).ownsRow base t sz (.slice (some ⟨z,0,none⟩) 0 0) ([]:List α).length (recCells sz C []):=by
 subst hz
 refine ⟨by simp [recCells],.inr ⟨W.heap.size,0,#[],rfl,hb,Blk.new W t #[],Nat.le_refl _,Nat.zero_le _,by simp,by simp [recCells]⟩⟩
section
variable {w w':World} {base:Nat} {v:Value} {K:List Val}
theorem own_cut {A:Option Addr} {n cap m:Nat} (h:w.ownsRow base 86 3 (.slice A n cap) K.length (recCells 3 itC K)) (hA:A ≠ none) (hm:m ≤ K.length) :
  w.ownsRow base 86 3 (.slice A m cap) (K.take m).length (recCells 3 itC (K.take m)):=by
 have hl:(K.take m).length=m:=by rw [List.length_take]; omega
 refine ⟨recCells_len 3 itC _,.inr ?_⟩
 rcases h.2 with ⟨e,_⟩ | ⟨g,cap',cur,e,hb,hg,hn,hc,hs,ht⟩
 ·cases e; exact absurd rfl hA
 ·cases e
  refine ⟨g,cap,cur,by rw [hl],hb,hg,by omega,hc,hs,?_⟩
  rw [hl]
  have e1:cur.toList.take (m * 3)=(cur.toList.take (K.length * 3)).take (m * 3):=by rw [List.take_take]; congr 1; omega
  rw [e1,ht]
  conv=>lhs; rw [← List.take_append_drop m K]
  rw [recCells_append,List.take_append_of_le_length (by rw [recCells_len,hl]; exact Nat.le_refl _),List.take_of_length_le (by rw [recCells_len,hl]; exact Nat.le_refl _)]
theorem own_form (h:w.ownsRow base 86 3 v K.length (recCells 3 itC K)) (hpos:0 < K.length):∃ g cap,v=.slice (some ⟨g,0,none⟩) K.length cap∧K.length ≤ cap∧base ≤ g∧RecRow w g 86 3 itC K:=by
 obtain ⟨g,cap,hv,hb,hr⟩:=own_rec h hpos
 refine ⟨g,cap,hv,?_,hb,hr⟩
 rcases h.2 with ⟨e,_⟩ | ⟨g',cap',cur,e,_,_,hn,_⟩
 ·rw [e] at hv; cases hv
 ·rw [e] at hv; cases hv; exact hn
theorem own_blk (h:w.ownsRow base 86 3 v K.length (recCells 3 itC K)) {k:Nat} (hk:v.ownBlock=some k):base ≤ k∧k < w.heap.size∧∃ cur,Blk w k 86 cur:=by
 have h9:=h.lt k hk
 refine ⟨h9.1,h9.2,?_⟩
 rcases h.2 with ⟨e,_⟩ | ⟨g',cap',cur,e,_,hg,_⟩
 ·rw [e] at hk; cases hk
 ·rw [e] at hk
  cases hk
  exact ⟨cur,hg⟩
theorem own_off (h:w.ownsRow base 86 3 v K.length (recCells 3 itC K)) {q:Nat} (g:w.grownBy w' (some q)) (hq:q < base):w'.ownsRow base 86 3 v K.length (recCells 3 itC K):=by
 refine ⟨h.1,?_⟩
 rcases h.2 with h2 | ⟨g',cap',cur,e,hb,hg,r⟩
 ·exact .inl h2
 ·exact .inr ⟨g',cap',cur,e,hb,(g.block g' (Blk.lt hg) (fun e=>by have:=Option.some.inj e; omega)).trans hg,r⟩
end
theorem blk_newer {w:World} {g:Nat} {t:TypeId} {cs:Array Value} (hg:g=w.heap.size):Blk (w.alloc (.cells cs t)) g t cs:=by rw [hg]; exact Blk.new _ _ _
def CallsAt (w:World) (v:Value) (L:List Int):Prop:=∃ g cap,v=.slice (some ⟨g,0,none⟩) L.length cap∧RecRow w g 3 1 intC L
def zL:Array Value:=#[.int .i64 0,.int .i64 0,.int .i64 0,.slice none 0 0,.int .i64 0,.slice none 0 0,.int .i64 0]
def zI:Array Value:=#[.int .i64 0,.bool false,.string ⟨#[]⟩]
def logA (kd y:Int) (s:Nat) (v:Value) (h:Int):Array Value:=#[.int .i64 kd,.int .i64 y,.int .i64 s,v,.int .i64 h,.slice none 0 0,.int .i64 (-1)]
theorem log_facts {w:World} {z s:Nat} {kd y h:Int} {v:Value} (hb:Blk w z 89 (logA kd y s v h)):z < w.heap.size∧w.cell? ⟨z,0,none⟩=some (.int .i64 kd)∧w.cell? ⟨z,1,none⟩=some (.int .i64 y)∧w.cell? ⟨z,2,none⟩=some (.int .i64 s)∧w.cell? ⟨z,3,none⟩=some v∧w.cell? ⟨z,4,none⟩=some (.int .i64 h)∧w.cell? ⟨z,5,none⟩=some (.slice none 0 0)∧w.cell? ⟨z,6,none⟩=some (.int .i64 (-1))∧∀ i,w.frozen? ⟨z,i,none⟩=false :=
 ⟨hb.lt,hb.cell 0,hb.cell 1,hb.cell 2,hb.cell 3,hb.cell 4,hb.cell 5,hb.cell 6,fun i=>hb.frozen i⟩
def LogC (w:World) (len:Nat) (kd y:Int) (s:Nat) (c:Array Value):Prop:=∃ (v:Value) (L:List Int) (h:Int),c=logA kd y s v h∧L.length=len∧CallsAt w v L
theorem LogC.ext {w w':World} {len:Nat} {kd y:Int} {s:Nat} {c:Array Value} (h:LogC w len kd y s c) (x:Ext w w'):LogC w' len kd y s c:=by
 obtain ⟨v,L,hh,e,hl,g,cap,hv,hr⟩:=h
 exact ⟨v,L,hh,e,hl,g,cap,hv,hr.ext x⟩
structure SkSt (w0:World) (z len:Nat) (kd y:Int) (s:Nat) (vC:Value) (h:Int) (gp:Nat) (PL:List Val) (base:Nat) (v:Value) (K:List Val) (w:World):Prop where
 x:Ext w0 w
 bl:Blk w z 89 (logA kd y s vC h)
 bo:Blk w (z + 1) 86 zI
 br:Blk w (z + 2) 89 zL
 cl:∃ L:List Int,L.length=len∧CallsAt w vC L
 pl:RecRow w gp 86 3 itC PL
 st:w.ownsRow base 86 3 v K.length (recCells 3 itC K)
 lo:w0.heap.size ≤ z∧z + 2 < gp∧gp < base∧base ≤ w.heap.size
section
variable {w0 w w':World} {z len s:Nat} {kd y:Int} {vC:Value} {h:Int} {gp:Nat} {PL:List Val} {base:Nat} {v:Value} {K:List Val}
theorem SkSt.ext' (k:SkSt w0 z len kd y s vC h gp PL base v K w) (x:Ext w w'):SkSt w0 z len kd y s vC h gp PL base v K w':=by
 obtain ⟨L,h1,g,cap,hv,hr⟩:=k.cl
 have:=x.size
 have:=k.lo
 exact ⟨k.x.trans x,k.bl.ext x,k.bo.ext x,k.br.ext x,⟨L,h1,g,cap,hv,hr.ext x⟩,k.pl.ext x,own_ext k.st x,by omega⟩
theorem blk_ty {g g':Nat} {t t':TypeId} {a b:Array Value} (h1:Blk w g t a) (h2:Blk w g' t' b) (hne:t ≠ t'):g ≠ g':=by
 intro e
 subst e
 unfold Blk at h1 h2
 rw [h1] at h2
 exact hne (Obj.cells.inj (Option.some.inj h2)).2.1
theorem RecRow.blk {α:Type} [Inhabited α] {t:TypeId} {sz g:Nat} {C:α → Nat → Value} {c:List α} (h:RecRow w g t sz C c):∃ cur,Blk w g t cur:=by
 obtain ⟨cur,hb,_⟩:=h
 exact ⟨cur,hb⟩
theorem SkSt.log (k:SkSt w0 z len kd y s vC h gp PL base v K w) {kd' y':Int} {s':Nat} {vC':Value} {h':Int} (g:w.grownBy w' (some z)) (hb:Blk w' z 89 (logA kd' y' s' vC' h')) (hc:∃ L:List Int,L.length=len∧CallsAt w vC' L):SkSt w0 z len kd' y' s' vC' h' gp PL base v K w':=by
 obtain ⟨L,h1,gc,cap,hv,hr⟩:=hc
 obtain ⟨cur,hcb⟩:=hr.blk
 have hne:=blk_ty hcb k.bl (by decide)
 have lo:=k.lo
 have:=g.size
 exact ⟨k.x.grown g (fun q e=>by have:=Option.some.inj e; omega),hb,(g.block _ k.bo.lt (fun e=>by have:=Option.some.inj e; omega)).trans k.bo,(g.block _ k.br.lt (fun e=>by have:=Option.some.inj e; omega)).trans k.br,
  ⟨L,h1,gc,cap,hv,hr.grown g (fun e=>hne (Option.some.inj e))⟩,k.pl.grown g (fun e=>by have:=Option.some.inj e; omega),own_off k.st g (by omega),by omega⟩
theorem SkSt.place (k:SkSt w0 z len kd y s vC h gp PL base v K w) {PL':List Val} (g:w.grownBy w' (some gp)) (hp:RecRow w' gp 86 3 itC PL'):SkSt w0 z len kd y s vC h gp PL' base v K w':=by
 obtain ⟨L,h1,gc,cap,hv,hr⟩:=k.cl
 obtain ⟨cur,hcb⟩:=hr.blk
 obtain ⟨cur2,hpb⟩:=k.pl.blk
 have hne:=blk_ty hcb hpb (by decide)
 have lo:=k.lo
 have:=g.size
 exact ⟨k.x.grown g (fun q e=>by have:=Option.some.inj e; omega),(g.block _ k.bl.lt (fun e=>by have:=Option.some.inj e; omega)).trans k.bl,(g.block _ k.bo.lt (fun e=>by have:=Option.some.inj e; omega)).trans k.bo,(g.block _ k.br.lt (fun e=>by have:=Option.some.inj e; omega)).trans k.br,
  ⟨L,h1,gc,cap,hv,hr.grown g (fun e=>hne (Option.some.inj e))⟩,hp,own_off k.st g (by omega),by omega⟩
theorem SkSt.stack (k:SkSt w0 z len kd y s vC h gp PL base v K w) {v':Value} {K':List Val} (st:w.ownsRow base 86 3 v' K'.length (recCells 3 itC K')):SkSt w0 z len kd y s vC h gp PL base v' K' w :=
 ⟨k.x,k.bl,k.bo,k.br,k.cl,k.pl,st,k.lo⟩
theorem SkSt.push (k:SkSt w0 z len kd y s vC h gp PL base v K w) {v':Value} {K':List Val} (g:w.grownBy w' v.ownBlock) (st:w'.ownsRow base 86 3 v' K'.length (recCells 3 itC K')):SkSt w0 z len kd y s vC h gp PL base v' K' w':=by
 obtain ⟨L,h1,gc,cap,hv,hr⟩:=k.cl
 obtain ⟨cur,hcb⟩:=hr.blk
 have lo:=k.lo
 have:=g.size
 have zl:=k.pl.lt
 have far:∀ q:Nat,q < base → some q ≠ v.ownBlock:=fun q hq e=>by have:=(own_blk k.st e.symm).1; omega
 have hne:some gc ≠ v.ownBlock:=fun e=>by
  obtain ⟨_,_,cur2,h9⟩:=own_blk k.st e.symm
  exact blk_ty hcb h9 (by decide) rfl
 exact ⟨k.x.grown g (fun q e=>by have:=(own_blk k.st e).1; omega),(g.block _ k.bl.lt (far _ (by omega))).trans k.bl,(g.block _ k.bo.lt (far _ (by omega))).trans k.bo,(g.block _ k.br.lt (far _ (by omega))).trans k.br,
  ⟨L,h1,gc,cap,hv,hr.grown g hne⟩,k.pl.grown g (far _ (by omega)),st,by omega⟩
end
def zits (n:Nat):Array Value:=((List.range (n * 3)).map fun k=>itC default (k % 3)).toArray
theorem made_zits (n:Nat):madeCells (Value.cells (.agg #[.int .i64 0,.bool false,.string ⟨#[]⟩])) (n * 3)=zits n:=by
 apply Array.ext
 ·rw [size_madeCells]; simp [zits]
 ·intro i h1 h2
  have hz:(#[.int .i64 0,.bool false,.string ⟨#[]⟩]:Array Value)[i % 3]! = itC default (i % 3):=by
   rcases (show i % 3=0 ∨ i % 3=1 ∨ i % 3=2 by omega) with e | e | e <;> rw [e] <;> rfl
  simp [madeCells,zits]
  exact hz
theorem run_make_its (w:World) (n:Nat) (hn:n ≤ 300):(Instr.makeSlice 87 (.int .i64 n) (.int .i64 n)).run Tryz.prog w=.ok (.slice (some ⟨w.heap.size,0,none⟩) n n) (w.alloc (.cells (zits n) 86)):=by
 obtain ⟨i,h1,h2,h3,h4⟩:=info_parts info_it
 have h:=run_makeSlice (P:=Tryz.prog) (w:=w) 87 86 i _ (by kernel_rfl) h1 h2 .i64 .i64 n n (by omega) (Int.le_refl _) (by rw [Int.toNat_natCast,h3]; omega) (by rw [h4]; omega) (by omega)
 rw [Int.toNat_natCast,h3] at h
 rw [made_zits] at h
 exact h
theorem its_row {w:World} {g n:Nat} (h:Blk w g 86 (zits n)):RecRow w g 86 3 itC (List.replicate n (default:Val)):=by
 refine ⟨_,h,by simp [zits],fun k j hk hj=>?_⟩
 simp only [List.length_replicate] at hk
 have e:(List.replicate n (default:Val)).getD k default=default:=by rw [List.getD,List.getElem?_replicate,if_pos hk]; rfl
 rw [e]
 have:k * 3 + j < n * 3:=by omega
 have e2:(k * 3 + j) % 3=j:=by omega
 simp [zits,this,e2]
def cdA (x:Cd):Array Value:=#[.int .i64 x.op,.int .i64 x.a,.int .i64 x.b,.int .i64 x.ty.base,.int .i64 x.ty.bits,.string x.ty.name,.bool x.ty.opt,.bool x.ty.err,.string x.name]
theorem cd_facts {w:World} {g:Nat} {x:Cd} (hb:Blk w g 63 (cdA x)):g < w.heap.size∧w.cell? ⟨g,0,none⟩=some (.int .i64 x.op)∧w.cell? ⟨g,1,none⟩=some (.int .i64 x.a)∧w.cell? ⟨g,2,none⟩=some (.int .i64 x.b)∧w.cell? ⟨g,3,none⟩=some (.int .i64 x.ty.base)∧w.cell? ⟨g,4,none⟩=some (.int .i64 x.ty.bits)∧w.cell? ⟨g,5,none⟩=some (.string x.ty.name)∧w.cell? ⟨g,6,none⟩=some (.bool x.ty.opt)∧w.cell? ⟨g,7,none⟩=some (.bool x.ty.err)∧w.cell? ⟨g,8,none⟩=some (.string x.name) :=
 ⟨hb.lt,hb.cell 0,hb.cell 1,hb.cell 2,hb.cell 3,hb.cell 4,hb.cell 5,hb.cell 6,hb.cell 7,hb.cell 8⟩
theorem CdAt.range {w:World} {b off:Nat} {c:List Cd} (h:CdAt w (some ⟨b,off,none⟩) c) {k:Nat} (hk:k < c.length) {x:Cd} (hx:x=c.getD k default):w.rangeAt b (off + k * 9) (cdA x).toList:=by
 subst hx
 intro j v hv
 obtain ⟨b',off',he,hb,hc⟩:=h (by omega)
 cases he
 have hj:j < 9:=(List.getElem?_eq_some_iff.1 hv).1
 rw [Nat.add_assoc,hc k j hk hj,← hv]
 match j,hj with
 | 0,_ | 1,_ | 2,_ | 3,_ | 4,_ | 5,_ | 6,_ | 7,_ | 8,_=>rfl
theorem RecRow.range {w:World} {g:Nat} {K:List Val} (h:RecRow w g 86 3 itC K) {k:Nat} (hk:k < K.length) {v:Val} (hv:v=K.getD k default):w.rangeAt g (k * 3) (itA v).toList:=by
 subst hv
 intro j v hv
 have hj:j < 3:=(List.getElem?_eq_some_iff.1 hv).1
 rw [h.cell hk hj,← hv]
 match j,hj with
 | 0,_ | 1,_ | 2,_=>rfl
theorem upd_list {PL:List Val} {i:Nat} (hi:i < PL.length) (u:Val):(fun j=>(PL.set i u).getD j default)=upd (fun j=>PL.getD j default) i u:=by
 funext j
 unfold upd
 by_cases e:j=i
 ·subst e
  rw [if_pos rfl]
  simp [List.getD,hi]
 ·rw [if_neg e]
  simp only [List.getD,List.getElem?_set_ne (fun e2=>e e2.symm)]
theorem sizeLog:(Tryz.prog.info? 89).map (·.size)=some 7:=by kernel_rfl
theorem Blk.all {w:World} {g:Nat} {t:TypeId} {cs:Array Value} (h:Blk w g t cs):w.rangeAt g 0 cs.toList:=by
 intro j v hv
 rw [Nat.zero_add]
 rw [h.cell,← hv,Array.getElem?_toList]
theorem results_row_row {P:Program} {fn:Func} {p p2:Tmp} {ty ty2:TypeId} (h:fn.results=#[.cell p ty,.cell p2 ty2]) (tmps:Array Value) (w:World) (g:Nat) (t:TypeId) (cs:Array Value) (fr:Nat × Nat) (d:TypeDesc)
  (hp:tmps.getD p undef=.pointer (some ⟨g,0,none⟩)) (hg:w.heap[g]?=some (.cells cs t fr))
  (hu:P.underlying ty=some d) (hd:(match d with | .struct _ | .array _ _=>true | _=>false)=true) (hi:(P.info? ty).map (·.size)=some cs.size)
  (g2:Nat) (t2:TypeId) (cs2:Array Value) (fr2:Nat × Nat) (d2:TypeDesc)
  (hp2:tmps.getD p2 undef=.pointer (some ⟨g2,0,none⟩)) (hg2:w.heap[g2]?=some (.cells cs2 t2 fr2))
  (hu2:P.underlying ty2=some d2) (hd2:(match d2 with | .struct _ | .array _ _=>true | _=>false)=true) (hi2:(P.info? ty2).map (·.size)=some cs2.size) :
  (results fn tmps).run P w=.ok (.tuple #[.agg cs,.agg cs2]) w:=by
 have hl:=run_loadVar_row w g t ty cs fr d hg hu hd hi
 have hl2:=run_loadVar_row w g2 t2 ty2 cs2 fr2 d2 hg2 hu2 hd2 hi2
 simp only [results,h]
 rw [Array.getD_eq_getD_getElem?] at hp hp2
 simp [Sem.run_bind,Result.andThen,hp,hp2,asAddr,hl,hl2]
theorem itA_all (v:Val):(itA v).all (·.oneCell')=true:=by rw [Array.all_eq_true_iff_forall_mem]; intro x hx; exact itA_one v x (by simpa using hx)
theorem CallsAt.one {w:World} {v:Value} {L:List Int} (h:CallsAt w v L):v.oneCell'=true:=by
 obtain ⟨g,cap,rfl,_⟩:=h
 rfl
theorem logA_all (kd y:Int) (s:Nat) {v:Value} (h:Int) (hv:v.oneCell'=true):(logA kd y s v h).all (·.oneCell')=true:=by
 rw [Array.all_eq_true_iff_forall_mem]
 intro x hx
 simp [logA] at hx
 rcases hx with rfl | rfl | rfl | rfl | rfl | rfl | rfl <;> first | rfl | exact hv
def KRet (w0:World) (len:Nat) (en:En) (t:Nat) (e:Ending) (w':World):Prop:=∃ c,e=.returned (.tuple #[.agg (itA (enV en)),.agg c])∧LogC w' len (enE en).1 (enE en).2 t c∧Ext w0 w'
def KCall (l:List Fc) (A:Option Addr) (len cap:Nat) (ck:Bool) (wb:World) (d:Nat):Prop :=
 ∀ (k:Nat) (av:List Val) (s:Nat) (w:World) (vA:Option Addr) (vn vc:Nat) (vC:Value) (L:List Int) (h:Int) (en:En) (t:Nat),k < len → vn=av.length → (av.length:Int)=(l.getD k default).params → s ≤ 40000 → Ext wb w → L.length=len → CallsAt w vC L → At w vA av.length 3 (fun i j=>itC (av.getD i default) j) → RunK l ck (.call d k av) s en t →
  Calls Tryz.prog 73 #[.slice A len cap,.int .i64 k,.slice vA vn vc,.int .i64 d,.bool ck,.agg (logA 0 0 s vC h)] w fun e w'=>KRet w len en t e w'
structure EndSt (w0:World) (z len:Nat) (kd y:Int) (s:Nat) (vC:Value) (h:Int) (u:Array Value) (l:Array Bool) (w:World):Prop where
 x:Ext w0 w
 bl:Blk w z 89 (logA kd y s vC h)
 bo:Blk w (z + 1) 86 (if l.getD 2 false=true then u else zI)
 br:Blk w (z + 2) 89 (if l.getD 3 false=true then logA kd y s vC h else zL)
 cl:∃ L:List Int,L.length=len∧CallsAt w vC L
 lo:w0.heap.size ≤ z
 sz:l.size=4
section
variable {w0 w:World} {z len s:Nat} {kd y h:Int} {vC:Value} {u:Array Value} {l:Array Bool}
theorem EndSt.start (x:Ext w0 w) (bl:Blk w z 89 (logA kd y s vC h)) (bo:Blk w (z + 1) 86 zI) (br:Blk w (z + 2) 89 zL) (cl:∃ L:List Int,L.length=len∧CallsAt w vC L) (lo:w0.heap.size ≤ z):EndSt w0 z len kd y s vC h u #[false,false,false,false] w.drew:=by
 obtain ⟨L,h1,g,cap,hv,hr⟩:=cl
 exact ⟨x.drew,bl.ext (Ext.refl _).drew,bo.ext (Ext.refl _).drew,br.ext (Ext.refl _).drew,⟨L,h1,g,cap,hv,hr.ext (Ext.refl _).drew⟩,lo,rfl⟩
theorem EndSt.other {i:Nat} (h2:i ≠ 2) (h3:i ≠ 3):EndSt w0 z len kd y s vC h u (l.setIfInBounds i true) w ↔ EndSt w0 z len kd y s vC h u l w:=by
 constructor
 ·rintro ⟨a,b,c,d,e,f,g⟩
  rw [getD_set_ne false h2] at c
  rw [getD_set_ne false h3] at d
  exact ⟨a,b,c,d,e,f,by simpa using g⟩
 ·rintro ⟨a,b,c,d,e,f,g⟩
  exact ⟨a,b,by rwa [getD_set_ne false h2],by rwa [getD_set_ne false h3],e,f,by simpa using g⟩
theorem blk_there {g:Nat} {t:TypeId} {cs:Array Value} (h:Blk w g t cs) {n:Nat} (hn:n=cs.size):w.there g 0 n:=by
 intro j hj
 rw [Nat.zero_add]
 refine ⟨?_,h.frozen j⟩
 rw [h.cell,Array.getElem?_eq_getElem (by omega)]
 rfl
theorem EndSt.there1 (e:EndSt w0 z len kd y s vC h u l w) (hu:u.size=3):w.there (z + 1) 0 u.size:=by
 refine blk_there e.bo ?_
 split
 ·rfl
 ·exact hu
theorem EndSt.there2 (e:EndSt w0 z len kd y s vC h u l w):w.there (z + 2) 0 (logA kd y s vC h).size:=by
 refine blk_there e.br ?_
 split <;> rfl
theorem EndSt.put1 (e:EndSt w0 z len kd y s vC h u l w) (hu:u.size=3):EndSt w0 z len kd y s vC h u (l.setIfInBounds 2 true) (w.setCells (z + 1) 0 u.toList):=by
 obtain ⟨L,h1,g,cap,hv,hr⟩:=e.cl
 obtain ⟨cur,hcb⟩:=hr.blk
 have hne:=blk_ty hcb e.bo (by decide)
 have lo:=e.lo
 refine ⟨e.x.setCells (by omega) _ _,e.bl.setCells_far (by omega) _ _,?_,?_,⟨L,h1,g,cap,hv,hr.cells_far hne _ _⟩,lo,by simpa using e.sz⟩
 ·rw [getD_set_eq (by rw [e.sz]; decide),if_pos rfl]
  have h9:=Blk.over e.bo u.toList (by split <;> simp [hu,zI])
  rwa [Array.toArray_toList] at h9
 ·rw [getD_set_ne false (by decide)]
  exact e.br.setCells_far (by omega) _ _
theorem EndSt.put2 (e:EndSt w0 z len kd y s vC h u l w):EndSt w0 z len kd y s vC h u (l.setIfInBounds 3 true) (w.setCells (z + 2) 0 (logA kd y s vC h).toList):=by
 obtain ⟨L,h1,g,cap,hv,hr⟩:=e.cl
 obtain ⟨cur,hcb⟩:=hr.blk
 have hne:=blk_ty hcb e.br (by decide)
 have lo:=e.lo
 refine ⟨e.x.setCells (by omega) _ _,e.bl.setCells_far (by omega) _ _,?_,?_,⟨L,h1,g,cap,hv,hr.cells_far hne _ _⟩,lo,by simpa using e.sz⟩
 ·rw [getD_set_ne false (by decide)]
  exact e.bo.setCells_far (by omega) _ _
 ·rw [getD_set_eq (by rw [e.sz]; decide),if_pos rfl]
  have h9:=Blk.over e.br (logA kd y s vC h).toList (by split <;> simp [logA,zL])
  rwa [Array.toArray_toList] at h9
theorem EndSt.log (e:EndSt w0 z len kd y s vC h u l w):LogC w len kd y s (logA kd y s vC h):=by
 obtain ⟨L,h1,h2⟩:=e.cl
 exact ⟨vC,L,h,rfl,h1,h2⟩
theorem EndSt.res (e:EndSt w0 z len kd y s vC h u #[true,true,true,true] w):Blk w (z + 1) 86 u∧Blk w (z + 2) 89 (logA kd y s vC h):=⟨e.bo,e.br⟩
theorem SkSt.endS {gp:Nat} {PL:List Val} {base:Nat} {v:Value} {K:List Val} (k:SkSt w0 z len kd y s vC h gp PL base v K w):EndSt w0 z len kd y s vC h u #[false,false,false,false] w.drew:=EndSt.start k.x k.bl k.bo k.br k.cl k.lo.1
end
theorem kcall_deep (l:List Fc) (A:Option Addr) (len cap:Nat) (ck:Bool) (wb:World) (d:Nat) (hd:30 < d) (hd2:d ≤ 1000):KCall l A len cap ck wb d:=by
 intro k av s0 w0 vA vn vc vC L h en s hk hvn hav hs hx hL hc hv hr
 obtain ⟨rfl,rfl⟩:=hr.inv_deep hd
 clear hr hvn
 have HZI:=Lib.hid sizeIt
 have HZL:=Lib.hid sizeLog
 have hd3:(30:Int) < (d:Int):=by omega
 have HC:=Lib.hid hc
 have HV1:=Lib.hid hc.one
 have HL:=Lib.hid hL
 clear hv hx hc hav hL
 unfold logA
 go_enter Tryz.func73,Tryz.ntmps73
 go_wp2_with fail
 obtain ⟨z,hz⟩:∃ z,z=w0.heap.size:=⟨_,rfl⟩
 have H2:Hid (Blk (((w0.alloc (.cells #[.int .i64 2,.int .i64 0,.int .i64 s,vC,.int .i64 h,.slice none 0 0,.int .i64 (-1)] 89)).alloc (.cells #[.int .i64 0,.bool false,.string ⟨#[]⟩] 86)).alloc (.cells #[.int .i64 0,.int .i64 0,.int .i64 0,.slice none 0 0,.int .i64 0,.slice none 0 0,.int .i64 0] 89)) (w0.heap.size + 1 + 1) 89 zL):=new3 _ _ _ _ _
 have H1:Hid (Blk (((w0.alloc (.cells #[.int .i64 2,.int .i64 0,.int .i64 s,vC,.int .i64 h,.slice none 0 0,.int .i64 (-1)] 89)).alloc (.cells #[.int .i64 0,.bool false,.string ⟨#[]⟩] 86)).alloc (.cells #[.int .i64 0,.int .i64 0,.int .i64 0,.slice none 0 0,.int .i64 0,.slice none 0 0,.int .i64 0] 89)) (w0.heap.size + 1) 86 zI):=Blk.alloc (new2 _ _ _ _) _
 have H0:Hid (Blk (((w0.alloc (.cells #[.int .i64 2,.int .i64 0,.int .i64 s,vC,.int .i64 h,.slice none 0 0,.int .i64 (-1)] 89)).alloc (.cells #[.int .i64 0,.bool false,.string ⟨#[]⟩] 86)).alloc (.cells #[.int .i64 0,.int .i64 0,.int .i64 0,.slice none 0 0,.int .i64 0,.slice none 0 0,.int .i64 0] 89)) w0.heap.size 89 (logA 2 0 s vC h)):=((Blk.new _ _ _).alloc _).alloc _
 have HX:Hid (Ext w0 (((w0.alloc (.cells #[.int .i64 2,.int .i64 0,.int .i64 s,vC,.int .i64 h,.slice none 0 0,.int .i64 (-1)] 89)).alloc (.cells #[.int .i64 0,.bool false,.string ⟨#[]⟩] 86)).alloc (.cells #[.int .i64 0,.int .i64 0,.int .i64 0,.slice none 0 0,.int .i64 0,.slice none 0 0,.int .i64 0] 89))):=(((Ext.refl _).alloc _).alloc _).alloc _
 generalize (((w0.alloc (.cells #[.int .i64 2,.int .i64 0,.int .i64 s,vC,.int .i64 h,.slice none 0 0,.int .i64 (-1)] 89)).alloc (.cells #[.int .i64 0,.bool false,.string ⟨#[]⟩] 86)).alloc (.cells #[.int .i64 0,.int .i64 0,.int .i64 0,.slice none 0 0,.int .i64 0,.slice none 0 0,.int .i64 0] 89))=w1 at H0 H1 H2 HX ⊢
 have hz:w0.heap.size ≤ w0.heap.size:=Nat.le_refl _
 obtain ⟨z,hzz⟩:∃ z,z=w0.heap.size:=⟨_,rfl⟩
 rw [← hzz] at H0 H1 H2 ⊢
 have HS:Hid (EndSt w0 z len 2 0 s vC h (itA default) #[false,false,false,false] w1.drew):=EndSt.start HX.out H0.out H1.out H2.out (by
  obtain ⟨g,cap,hv,hr⟩:=HC.out
  exact ⟨L,HL.out,g,cap,hv,hr.ext HX.out⟩) (by omega)
 clear H0 H1 H2 HX hzz
 refine flow_begin (EndSt w0 z len 2 0 s vC h (itA default)) #[false,false,false,false] rfl (by kernel_rfl) (fun _ _ _ _ _ h=>h) (HS.out) (fun HQ=>?_)
 have HST:∀ (i:Nat) (_:i ≠ 2:=by decide) (_:i ≠ 3:=by decide) (l:Array Bool) (w':World),EndSt w0 z len 2 0 s vC h (itA default) (l.setIfInBounds i true) w' ↔ EndSt w0 z len 2 0 s vC h (itA default) l w':=fun i h2 h3 l w'=>EndSt.other h2 h3
 (refine tp 0 28 rfl HQ (HST 0) ?_; try simp only [putL,List.set])
 refine flow_take (i:=1) (t:=29) (oi:=⟨some 29,_,_,_,_,_⟩) rfl rfl (by kernel_rfl) (by kernel_rfl) (by kernel_rfl) HQ (HST 1) (does_load (by rfl) 89 _ rfl z 0 rfl (logA 2 0 s vC h).toList _ (fun l w' hF=>hF.bl.all) Tryz.underlying89 rfl HZL.out) ?_
 try simp only [putL,List.set]
 refine flow_put (i:=2) (oi:=⟨none,_,_,_,_,none⟩) rfl rfl (stores_mid (i:=2) rfl 86 _ _ rfl (z + 1) 0 ((itA default)) rfl rfl (fun l w' h=>h.there1 rfl) HZI.out (itA_all _) (fun l w' h=>h.put1 rfl)) (by kernel_rfl) ?_
 try simp only [Array.set!,Array.setIfInBounds,putL,List.set]
 refine flow_store1 (i:=3) (oi:=⟨none,_,_,_,_,none⟩) rfl rfl (stores_mid (i:=3) rfl 89 _ _ rfl (z + 2) 0 (logA 2 0 s vC h) rfl rfl (fun l w' h=>h.there2) HZL.out (logA_all _ _ _ _ HV1.out) (fun l w' h=>h.put2)) (by kernel_rfl) (by kernel_rfl) (fun w9 h9=>?_)
 clear HST HQ
 go_wp2_with fail
 exact bodyPost_ret (results_row_row rfl _ _ (z + 1) 86 ((itA default)) (0,0) _ rfl (h9.res.1) Tryz.underlying86 rfl HZI.out (z + 2) 89 (logA 2 0 s vC h) (0,0) _ rfl (h9.res.2) Tryz.underlying89 rfl HZL.out) rfl ⟨_,rfl,h9.log,h9.x⟩
end Go.Proofs.YtcoookehfhhhdaaGreatDoor.c
