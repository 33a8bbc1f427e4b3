/- Programs in memory: lists of nodes that read as slices, in a view of the world that may leave out one block. No condition. The parser in memory; contracts of its smallest functions: the text and the kind of the next token, taking a token with a text, a name. Conditions: the parser lies in a block of its own, the tokens before it. -/
import Derived.Test.YtmmnhbhnjiajhaaGreatDoorSTs
import Derived.StillTailTactics
import Derived.Deep.RegionHeld3
namespace Go.Proofs.YtmmnhbhnjiajhaaGreatDoor.c
open Go.RowKit
set_option linter.unusedVariables false
set_option maxRecDepth 100000
set_option maxHeartbeats 1600000
set_option linter.unusedSimpArgs false
structure Px (m:Nat) (w w':World):Prop where
 os:w'.os=w.os
 tape:w'.tape=w.tape
 output:w'.output=w.output
 size:w.heap.size ≤ w'.heap.size
 block:∀ k,k < w.heap.size → k ≠ m → w'.heap[k]?=w.heap[k]?
section
variable {m:Nat} {a b c w w':World}
theorem Px.refl (m:Nat) (w:World):Px m w w:=⟨rfl,rfl,rfl,Nat.le_refl _,fun _ _ _=>rfl⟩
theorem Px.trans (h:Px m a b) (k:Px m b c):Px m a c:=⟨k.os.trans h.os,k.tape.trans h.tape,k.output.trans h.output,Nat.le_trans h.size k.size,fun i hi hm=>(k.block i (Nat.lt_of_lt_of_le hi h.size) hm).trans (h.block i hi hm)⟩
theorem Px.of (x:Ext a b):Px m a b:=⟨x.out.os,x.out.tape,x.out.output,x.out.size,fun k hk _=>x.out.block k hk⟩
theorem Px.ext (h:Px m a b) (x:Ext b c):Px m a c:=h.trans (Px.of x)
theorem Px.alloc (h:Px m a b) (o:Obj):Px m a (b.alloc o):=h.ext ((Ext.refl b).alloc o)
theorem Px.drew (h:Px m a b):Px m a b.drew:=h.ext (Ext.refl b).drew
theorem Px.setM (h:Px m a b) (i:Nat) (u:Value):Px m a (b.setCell ⟨m,i,none⟩ u):=h.trans ⟨rfl,rfl,rfl,by simp [World.setCell],fun k hk hm=>Below.heap_setCell _ _ _ _ hm⟩
theorem Px.set_ (h:Px m a b) {p:Addr} (hp:a.heap.size ≤ p.block) (u:Value):Px m a (b.setCell p u):=⟨h.os,h.tape,h.output,by simpa [World.setCell] using h.size,fun k hk hm=>(Below.heap_setCell b p u k (by omega)).trans (h.block k hk hm)⟩
theorem Px.row (h:Px m a b) {g:Nat} (hg:a.heap.size ≤ g) (cs:Array Value):Px m a (b.setRow g cs):=⟨h.os,h.tape,h.output,by simpa using h.size,fun k hk hm=>(setRow_other b g k cs (by omega)).trans (h.block k hk hm)⟩
theorem Px.grown (h:Px m a b) {row:Option Nat} (hg:b.grownBy c row) (hr:∀ k,row=some k → a.heap.size ≤ k):Px m a c :=
 ⟨hg.os.trans h.os,hg.tape.trans h.tape,hg.output.trans h.output,Nat.le_trans h.size hg.size,fun k hk hm=>(hg.block k (Nat.lt_of_lt_of_le hk h.size) (fun e=>by have:=hr k e.symm; omega)).trans (h.block k hk hm)⟩
theorem Px.base {w0:World} (x:Ext w0 a) (hm:w0.heap.size ≤ m) (h:Px m a b):Ext w0 b:=⟨h.os.trans x.out.os,h.tape.trans x.out.tape,h.output.trans x.out.output,Nat.le_trans x.size h.size,fun k hk=>(h.block k (Nat.lt_of_lt_of_le hk x.size) (by omega)).trans (x.out.block k hk)⟩
end
abbrev Vw:=Nat → Nat → Option Value
def Vw.le (V V':Vw):Prop:=∀ b o v,V b o=some v → V' b o=some v
def wv (w:World):Vw:=fun b o=>w.cell? ⟨b,o,none⟩
open Classical in
noncomputable def vp (p:Nat → Prop) (w:World):Vw:=fun b o=>if p b then w.cell? ⟨b,o,none⟩ else none
theorem cell_lt {w:World} {p:Addr} {v:Value} (h:w.cell? p=some v):p.block < w.heap.size:=by
 rcases Nat.lt_or_ge p.block w.heap.size with h1 | h1
 ·exact h1
 ·simp [World.cell?,Array.getElem?_eq_none h1] at h
theorem Ext.wv {w w':World} (x:Ext w w'):(wv w).le (wv w'):=fun b o v h=>(x.cell (p:=⟨b,o,none⟩) (cell_lt h)).trans h
theorem vp_le {p q:Nat → Prop} {w w':World} (h:∀ b,p b → b < w.heap.size → q b∧w'.heap[b]?=w.heap[b]?):(vp p w).le (vp q w'):=fun b o v hv=>by
 unfold vp at hv ⊢
 split at hv
 ·rename_i hb
  obtain ⟨h1,h2⟩:=h b hb (cell_lt hv)
  rw [if_pos h1]
  exact (World.cell?_of_block h2).trans hv
 ·cases hv
theorem vp_new {p:Nat → Prop} {w:World} {g:Nat} {t:TypeId} {cs:Array Value} (h:Blk w g t cs) (hg:p g) (i:Nat):vp p w g i=cs[i]?:=by
 unfold vp
 rw [if_pos hg]
 exact h.cell i
def Rw (V:Vw) (A:Option Addr) (xs:List Value):Prop:=xs ≠ [] → ∃ b o,A=some ⟨b,o,none⟩∧∀ i v,xs[i]?=some v → V b (o + i)=some v
theorem Rw.mono {V V':Vw} (h:V.le V') {A:Option Addr} {xs:List Value} (r:Rw V A xs):Rw V' A xs:=fun hx=>by
 obtain ⟨b,o,e,hc⟩:=r hx
 exact ⟨b,o,e,fun i v hv=>h _ _ _ (hc i v hv)⟩
def SlW (V:Vw) (v:Value) (n:Nat) (E:List Value → Prop):Prop:=∃ A c xs,v=.slice A n c∧Rw V A xs∧E xs
def Elems (V:Vw):Nd → Nat → List Value → Prop
 | .nil=>fun _ xs=>xs=[]
 | .ex op ty nm n a b tl=>fun k xs=>k=0∧∃ va vb r,xs=[.int .i64 op,.int .i64 ty.base,.int .i64 ty.bits,.string ty.name,.bool ty.opt,.bool ty.err,.string nm,.int .i64 n,va,vb] ++ r ∧
   SlW V va a.len (Elems V a 0)∧SlW V vb b.len (Elems V b 1)∧Elems V tl 0 r
 | .st op nm ty es bs cs tl=>fun k xs=>k=1∧∃ va vb vc r,xs=[.int .i64 op,.string nm,.int .i64 ty.base,.int .i64 ty.bits,.string ty.name,.bool ty.opt,.bool ty.err,va,vb,vc] ++ r ∧
   SlW V va es.len (Elems V es 0)∧SlW V vb bs.len (Elems V bs 2)∧SlW V vc cs.len (Elems V cs 3)∧Elems V tl 1 r
 | .bl b tl=>fun k xs=>k=2∧∃ vb r,xs=[vb] ++ r∧SlW V vb b.len (Elems V b 1)∧Elems V tl 2 r
 | .ca lo hi b tl=>fun k xs=>k=3∧∃ vb r,xs=[.int .i64 lo,.int .i64 hi,vb] ++ r∧SlW V vb b.len (Elems V b 1)∧Elems V tl 3 r
 | .pa nm ty kn tl=>fun k xs=>k=4∧∃ r,xs=[.string nm,.int .i64 ty.base,.int .i64 ty.bits,.string ty.name,.bool ty.opt,.bool ty.err,.bool kn] ++ r∧Elems V tl 4 r
 | .de fn nm ps ty val b tl=>fun k xs=>k=5∧∃ vp ys vb r,xs=[.bool fn,.string nm,vp,.int .i64 ty.base,.int .i64 ty.bits,.string ty.name,.bool ty.opt,.bool ty.err] ++ ys ++ [vb] ++ r ∧
   SlW V vp ps.len (Elems V ps 4)∧val.len=1∧Elems V val 0 ys∧SlW V vb b.len (Elems V b 1)∧Elems V tl 5 r
def szK (k:Nat):Nat:=if k=0 ∨ k=1 then 10 else if k=2 then 1 else if k=3 then 3 else if k=4 then 7 else 19
theorem SlW.mono {V V':Vw} (h:V.le V') {v:Value} {n:Nat} {E E':List Value → Prop} (he:∀ xs,E xs → E' xs) (s:SlW V v n E):SlW V' v n E':=by
 obtain ⟨A,c,xs,e,r,hx⟩:=s
 exact ⟨A,c,xs,e,r.mono h,he xs hx⟩
theorem Elems.mono {V V':Vw} (h:V.le V'):∀ (x:Nd) (k:Nat) (xs:List Value),Elems V x k xs → Elems V' x k xs
 | .nil,_,_,e=>e
 | .ex op ty nm n a b tl,k,xs,⟨hk,va,vb,r,e,h1,h2,h3⟩=>⟨hk,va,vb,r,e,h1.mono h (Elems.mono h a 0),h2.mono h (Elems.mono h b 1),Elems.mono h tl 0 r h3⟩
 | .st op nm ty es bs cs tl,k,xs,⟨hk,va,vb,vc,r,e,h1,h2,h4,h3⟩=>⟨hk,va,vb,vc,r,e,h1.mono h (Elems.mono h es 0),h2.mono h (Elems.mono h bs 2),h4.mono h (Elems.mono h cs 3),Elems.mono h tl 1 r h3⟩
 | .bl b tl,k,xs,⟨hk,vb,r,e,h1,h3⟩=>⟨hk,vb,r,e,h1.mono h (Elems.mono h b 1),Elems.mono h tl 2 r h3⟩
 | .ca lo hi b tl,k,xs,⟨hk,vb,r,e,h1,h3⟩=>⟨hk,vb,r,e,h1.mono h (Elems.mono h b 1),Elems.mono h tl 3 r h3⟩
 | .pa nm ty kn tl,k,xs,⟨hk,r,e,h3⟩=>⟨hk,r,e,Elems.mono h tl 4 r h3⟩
 | .de fn nm ps ty val b tl,k,xs,⟨hk,vp,ys,vb,r,e,h1,h0,h2,h4,h3⟩=>⟨hk,vp,ys,vb,r,e,h1.mono h (Elems.mono h ps 4),h0,Elems.mono h val 0 ys h2,h4.mono h (Elems.mono h b 1),Elems.mono h tl 5 r h3⟩
theorem Elems.app {V:Vw}:∀ (x y:Nd) (k:Nat) (xs ys:List Value),Elems V x k xs → Elems V y k ys → Elems V (x.app y) k (xs ++ ys)
 | .nil,y,k,xs,ys,e,h=>by rw [show xs=[] from e]; exact h
 | .ex op ty nm n a b tl,y,k,xs,ys,⟨hk,va,vb,r,e,h1,h2,h3⟩,h=>⟨hk,va,vb,r ++ ys,by rw [e,List.append_assoc],h1,h2,Elems.app tl y 0 r ys h3 (hk ▸ h)⟩
 | .st op nm ty es bs cs tl,y,k,xs,ys,⟨hk,va,vb,vc,r,e,h1,h2,h4,h3⟩,h=>⟨hk,va,vb,vc,r ++ ys,by rw [e,List.append_assoc],h1,h2,h4,Elems.app tl y 1 r ys h3 (hk ▸ h)⟩
 | .bl b tl,y,k,xs,ys,⟨hk,vb,r,e,h1,h3⟩,h=>⟨hk,vb,r ++ ys,by rw [e,List.append_assoc],h1,Elems.app tl y 2 r ys h3 (hk ▸ h)⟩
 | .ca lo hi b tl,y,k,xs,ys,⟨hk,vb,r,e,h1,h3⟩,h=>⟨hk,vb,r ++ ys,by rw [e,List.append_assoc],h1,Elems.app tl y 3 r ys h3 (hk ▸ h)⟩
 | .pa nm ty kn tl,y,k,xs,ys,⟨hk,r,e,h3⟩,h=>⟨hk,r ++ ys,by rw [e,List.append_assoc],Elems.app tl y 4 r ys h3 (hk ▸ h)⟩
 | .de fn nm ps ty val b tl,y,k,xs,ys,⟨hk,vp,zs,vb,r,e,h1,h0,h2,h4,h3⟩,h=>⟨hk,vp,zs,vb,r ++ ys,by rw [e,List.append_assoc],h1,h0,h2,h4,Elems.app tl y 5 r ys h3 (hk ▸ h)⟩
theorem Elems.length {V:Vw}:∀ (x:Nd) (k:Nat) (xs:List Value),Elems V x k xs → xs.length=x.len * szK k
 | .nil,k,xs,e=>by rw [show xs=[] from e]; simp [Nd.len]
 | .ex op ty nm n a b tl,k,xs,⟨hk,va,vb,r,e,h1,h2,h3⟩=>by have:=Elems.length tl 0 r h3; rw [e,hk]; simp [Nd.len,szK,this,Nat.add_mul] at this ⊢ <;> omega
 | .st op nm ty es bs cs tl,k,xs,⟨hk,va,vb,vc,r,e,h1,h2,h4,h3⟩=>by have:=Elems.length tl 1 r h3; rw [e,hk]; simp [Nd.len,szK,this,Nat.add_mul] at this ⊢ <;> omega
 | .bl b tl,k,xs,⟨hk,vb,r,e,h1,h3⟩=>by have:=Elems.length tl 2 r h3; rw [e,hk]; simp [Nd.len,szK,this,Nat.add_mul] at this ⊢ <;> omega
 | .ca lo hi b tl,k,xs,⟨hk,vb,r,e,h1,h3⟩=>by have:=Elems.length tl 3 r h3; rw [e,hk]; simp [Nd.len,szK,this,Nat.add_mul] at this ⊢ <;> omega
 | .pa nm ty kn tl,k,xs,⟨hk,r,e,h3⟩=>by have:=Elems.length tl 4 r h3; rw [e,hk]; simp [Nd.len,szK,this,Nat.add_mul] at this ⊢ <;> omega
 | .de fn nm ps ty val b tl,k,xs,⟨hk,vp,ys,vb,r,e,h1,h0,h2,h4,h3⟩=>by have:=Elems.length tl 5 r h3; have h5:=Elems.length val 0 ys h2; rw [e,hk]; simp [Nd.len,szK,this,h5,h0,Nat.add_mul] at this ⊢ <;> omega
def Sl (V:Vw) (v:Value) (x:Nd) (k:Nat):Prop:=SlW V v x.len (Elems V x k)
theorem Sl.mono {V V':Vw} (h:V.le V') {v:Value} {x:Nd} {k:Nat} (s:Sl V v x k):Sl V' v x k:=SlW.mono h (Elems.mono h x k) s
theorem Sl.nil (V:Vw) (A:Option Addr) (c k:Nat):Sl V (.slice A 0 c) .nil k:=⟨A,c,[],rfl,fun h=>absurd rfl h,rfl⟩
theorem Sl.new {V:Vw} {g n c:Nat} {x:Nd} {k:Nat} {cs:List Value} (he:Elems V x k cs) (hc:∀ i,V g i=cs[i]?) (hn:n=x.len):Sl V (.slice (some ⟨g,0,none⟩) n c) x k :=
 ⟨_,c,cs,by rw [hn],fun _=>⟨g,0,rfl,fun i v hv=>by rw [Nat.zero_add,hc i,hv]⟩,he⟩
theorem Sl.own {p:Nat → Prop} {w:World} {base:Nat} {t:TypeId} {sz n:Nat} {v:Value} {x:Nd} {k:Nat} {xs:List Value} (h:w.ownsRow base t sz v n xs) (he:Elems (vp p w) x k xs) (hp:∀ g,v.ownBlock=some g → p g) (hn:n=x.len):Sl (vp p w) v x k:=by
 have hl:=h.1
 rcases h.2 with ⟨rfl,rfl⟩ | ⟨g,cap,cur,rfl,hb,hg,h3,hc,hs,ht⟩
 ·have:xs=[]:=List.eq_nil_of_length_eq_zero (by omega)
  subst this
  exact ⟨none,0,[],by rw [hn],fun h=>absurd rfl h,he⟩
 ·refine ⟨_,cap,xs,by rw [hn],fun _=>⟨g,0,rfl,fun i v hv=>?_⟩,he⟩
  have hi:i < xs.length:=(List.getElem?_eq_some_iff.1 hv).1
  have h9:=h.cellAt i (by omega)
  unfold vp
  rw [if_pos (hp g rfl),Nat.zero_add,h9,hv]
theorem Px.drewN {m:Nat} {a b:World} (h:Px m a b) (n:Nat):Px m a (b.drewN n):=h.ext ((Ext.refl b).drewN n)
theorem toL_inj {a b:ByteArray} (h:a.toList=b.toList):a=b:=ByteArray.ext (Array.toList_inj.1 (by rw [Lib.toList_data,Lib.toList_data] at h; exact h))
theorem bs_ne {a b:ByteArray} (h:a ≠ b):(a.toList == b.toList)=false:=beq_eq_false_iff_ne.2 fun e=>h (toL_inj e)
theorem bs_nl {a:ByteArray} (l:List UInt8) (h:a ≠ ⟨l.toArray⟩):(a.toList == l)=false:=beq_eq_false_iff_ne.2 fun e=>h (ByteArray.ext (Array.toList_inj.1 (by rw [Lib.toList_data] at e; simpa using e)))
instance:Inhabited Tok:=⟨⟨0,0,⟨#[]⟩⟩⟩
def tokC (t:Tok):Nat → Value
 | 0=>.int .i64 t.kind
 | 1=>.int .i64 t.at_
 | _=>.string t.text
def TokAt (w:World) (A:Option Addr) (L:List Tok):Prop:=At w A L.length 3 (fun i j=>tokC (L.getD i default) j)
structure Cx where
 w0:World
 m:Nat
 A:Option Addr
 cap:Nat
 L:List Tok
 hm:w0.heap.size ≤ m
 tok:TokAt w0 A L
 len:L.length ≤ 1000
 laid:Laid w0
 wf:∀ t,t ∈ L → 0 < t.text.size∧t.text.size ≤ 4000∧(t.kind=1 → (t.text.data.toList.head?.map isDg)=some true)∧(t.kind=3 ↔ t.text.data.toList.head?=some 64)
structure PS (C:Cx) (a:Nat) (w:World):Prop where
 ext:Ext C.w0 w
 le:a ≤ C.L.length
 blk:Blk w C.m 70 #[.slice C.A C.L.length C.cap,.int .i64 a]
structure Mv (C:Cx) (w:World) (a:Nat) (w':World):Prop where
 ps:PS C a w'
 px:Px C.m w w'
abbrev Pp (C:Cx):Value:=.pointer (some ⟨C.m,0,none⟩)
def pan (k:Nat):List PanicEntry:=[{ v:=.iface 71 (.int .i64 k),recovered:=false }]
section
variable {C:Cx} {a b:Nat} {w w1 w2:World}
theorem PS.to (h:PS C a w) (x:Ext w w1):PS C a w1:=⟨h.ext.trans x,h.le,h.blk.ext x⟩
theorem PS.mv (h:PS C a w) (x:Ext w w1):Mv C w a w1:=⟨h.to x,Px.of x⟩
theorem Mv.trans (h:Mv C w a w1) (k:Mv C w1 b w2):Mv C w b w2:=⟨k.ps,h.px.trans k.px⟩
theorem Mv.to (h:Mv C w a w1) (x:Ext w1 w2):Mv C w a w2:=⟨h.ps.to x,h.px.ext x⟩
theorem PS.lt (h:PS C a w):C.m < w.heap.size:=h.blk.lt
theorem PS.facts (h:PS C a w):C.m < w.heap.size∧w.cell? ⟨C.m,0,none⟩=some (.slice C.A C.L.length C.cap)∧w.cell? ⟨C.m,1,none⟩=some (.int .i64 a)∧(∀ i,w.frozen? ⟨C.m,i,none⟩=false) :=
 ⟨h.lt,h.blk.cell 0,h.blk.cell 1,h.blk.frozen⟩
theorem PS.put (h:PS C a w) (hb:b ≤ C.L.length):PS C b (w.setCell ⟨C.m,1,none⟩ (.int .i64 b)) :=
 ⟨Px.base h.ext C.hm ((Px.refl C.m w).setM 1 _),hb,h.blk.set_ 1 _⟩
theorem PS.adv (h:PS C a w) (hb:b ≤ C.L.length):Mv C w b (w.setCell ⟨C.m,1,none⟩ (.int .i64 b)):=⟨h.put hb,(Px.refl C.m w).setM 1 _⟩
theorem PS.step (h:PS C a w) (hlt:a < C.L.length):Mv C w (a + 1) (w.setCell ⟨C.m,1,none⟩ (.int .i64 ((a:Int) + 1))):=h.adv (b:=a + 1) hlt
theorem getD_get {L:List Tok} {a:Nat} (h:a < L.length):L[a]?=some (L.getD a default):=by simp [List.getD,List.getElem?_eq_getElem h]
theorem tx_at {L:List Tok} {a:Nat} (h:a < L.length):tx L a=(L.getD a default).text:=by unfold tx; rw [getD_get h]; rfl
theorem kd_at {L:List Tok} {a:Nat} (h:a < L.length):kd_ L a=(L.getD a default).kind:=by unfold kd_; rw [getD_get h]; rfl
theorem tx_end {L:List Tok} {a:Nat} (h:L.length ≤ a):tx L a=⟨#[]⟩:=by unfold tx; rw [List.getElem?_eq_none h]; rfl
theorem lt_tx {L:List Tok} {a:Nat} {s:ByteArray} (h:tx L a=s) (hs:s ≠ ⟨#[]⟩):a < L.length:=by
 rcases Nat.lt_or_ge a L.length with h1 | h1
 ·exact h1
 ·rw [tx_end h1] at h; exact absurd h.symm hs
theorem kd_end {L:List Tok} {a:Nat} (h:L.length ≤ a):kd_ L a=-1:=by unfold kd_; rw [List.getElem?_eq_none h]; rfl
theorem PS.tok (h:PS C a w) (ha:a < C.L.length):∃ b o,C.A=some ⟨b,o,none⟩∧b < w.heap.size∧w.cell? ⟨b,o + a * 3,none⟩=some (.int .i64 (kd_ C.L a))∧w.cell? ⟨b,o + a * 3 + 2,none⟩=some (.string (tx C.L a)):=by
 obtain ⟨b,o,e,hb,hc⟩:=C.tok (by omega)
 have h0:=hc a 0 ha (by omega)
 have h2:=hc a 2 ha (by omega)
 refine ⟨b,o,e,Nat.lt_of_lt_of_le hb h.ext.size,?_,?_⟩
 ·rw [kd_at ha]; exact (h.ext.cell (p:=⟨b,_,none⟩) hb).trans h0
 ·rw [tx_at ha]; exact (h.ext.cell (p:=⟨b,_,none⟩) hb).trans h2
end
theorem PS.tx_size {C:Cx} {a:Nat}:(tx C.L a).size ≤ 4000:=by
 rcases Nat.lt_or_ge a C.L.length with h1 | h1
 ·rw [tx_at h1]
  exact (C.wf _ (by rw [List.getD,List.getElem?_eq_getElem h1]; exact List.getElem_mem h1)).2.1
 ·rw [tx_end h1]
  decide
theorem peek_any {C:Cx} {a:Nat} {w:World} (h:PS C a w):Calls Tryz.prog 119 #[Pp C] w fun e w'=>e=.returned (.string (tx C.L a))∧Ext w w':=by
 obtain ⟨hm,h0,h1,hf⟩:=h.facts
 have hle:=h.le
 have hlen:=C.len
 by_cases hlt:a < C.L.length
 ·obtain ⟨b,o,hA,hb,hk,ht⟩:=h.tok hlt
  rw [hA] at h0
  have hne:¬ (a:Int)=(C.L.length:Int):=by omega
  generalize tx C.L a=s at ht ⊢
  generalize C.L.length=n at h0 hlt hne hlen ⊢
  clear h hle hk
  go_enter Tryz.func119,Tryz.ntmps119
  go_wp2_with (first | go_quiet (fail))
  go_ret
  exact ⟨rfl,exA⟩
 ·obtain rfl:a=C.L.length:=by omega
  rw [tx_end (Nat.le_refl _)]
  generalize C.L.length=n at h0 h1 ⊢
  clear h hle hlt
  go_enter Tryz.func119,Tryz.ntmps119
  go_wp2_with (first | go_quiet (fail))
  go_ret
  exact ⟨rfl,exA⟩
theorem kind_any {C:Cx} {a:Nat} {w:World} (h:PS C a w):Calls Tryz.prog 168 #[Pp C] w fun e w'=>e=.returned (.int .i64 (kd_ C.L a))∧Ext w w':=by
 obtain ⟨hm,h0,h1,hf⟩:=h.facts
 have hle:=h.le
 have hlen:=C.len
 by_cases hlt:a < C.L.length
 ·obtain ⟨b,o,hA,hb,hk,ht⟩:=h.tok hlt
  rw [hA] at h0
  have hne:¬ (a:Int)=(C.L.length:Int):=by omega
  generalize kd_ C.L a=s at hk ⊢
  generalize C.L.length=n at h0 hlt hne hlen ⊢
  clear h hle ht
  go_enter Tryz.func168,Tryz.ntmps168
  go_wp2_with (first | go_quiet (fail))
  go_ret
  exact ⟨rfl,exA⟩
 ·obtain rfl:a=C.L.length:=by omega
  rw [kd_end (Nat.le_refl _)]
  generalize C.L.length=n at h0 h1 ⊢
  clear h hle hlt
  go_enter Tryz.func168,Tryz.ntmps168
  go_wp2_with (first | go_quiet (fail))
  go_ret
  exact ⟨rfl,exA⟩
theorem fail_any {C:Cx} {a:Nat} {w:World} (h:PS C a w):Calls Tryz.prog 169 #[Pp C] w fun e w'=>e=.panicked (pan a)∧w=w':=by
 obtain ⟨hm,h0,h1,hf⟩:=h.facts
 unfold pan
 clear h
 go_enter Tryz.func169,Tryz.ntmps169
 go_wp2_with fail
 exact ⟨rfl,rfl,rfl⟩
theorem next_any {C:Cx} {a:Nat} {w:World} (h:PS C a w) (s:ByteArray) (hs:s ≠ ⟨#[]⟩):Calls Tryz.prog 113 #[Pp C,.string s] w fun e w'=>(tx C.L a=s∧e=.returned (.bool true)∧Mv C w (a + 1) w') ∨ (tx C.L a ≠ s∧e=.returned (.bool false)∧Mv C w a w'):=by
 have HP:=Lib.hid h
 have hlen:=C.len
 by_cases hx:tx C.L a=s
 ·have hlt:=lt_tx hx hs
  clear h
  go_enter Tryz.func113,Tryz.ntmps113
  go_wp2_with (first | (go_at_call 119; refine (peek_any HP.out).mono ?_; rw [hx]; rintro r w1 ⟨rfl,x1⟩; have HP1:=HP.out.to x1; obtain ⟨hm,h0,h1,hf⟩:=HP1.facts; have hw:IntKind.i64.wrap ((a:Int) + 1)=(a:Int) + 1:=IntWalk.i64_in _ (by omega)))
  go_ret
  exact .inl ⟨hx,rfl,(HP.out.mv x1).trans (HP1.step hlt)⟩
 ·have hxb:=bs_ne hx
  clear h
  go_enter Tryz.func113,Tryz.ntmps113
  go_wp2_with (first | (go_at_call 119; refine (peek_any HP.out).mono ?_; rintro r w1 ⟨rfl,x1⟩))
  go_ret
  exact .inr ⟨hx,rfl,HP.out.mv x1⟩
theorem want_any {C:Cx} {a:Nat} {w:World} (h:PS C a w) (s:ByteArray) (hs:s ≠ ⟨#[]⟩):Calls Tryz.prog 115 #[Pp C,.string s] w fun e w'=>(tx C.L a=s∧e=.returned (.tuple #[])∧Mv C w (a + 1) w') ∨ (tx C.L a ≠ s∧e=.panicked (pan a)∧Mv C w a w'):=by
 have HP:=Lib.hid h
 clear h
 go_enter Tryz.func115,Tryz.ntmps115
 go_wp2_with (first
  | (go_at_call 113; refine (next_any HP.out s hs).mono ?_; rintro r w1 (⟨hx,rfl,h1⟩ | ⟨hx,rfl,h1⟩))
  | (go_at_call 169; refine (fail_any h1.ps).mono ?_; rintro r w2 ⟨rfl,rfl⟩))
 ·go_end0
  exact .inl ⟨hx,rfl,h1⟩
 ·exact ⟨rfl,.inr ⟨hx,rfl,h1⟩⟩
theorem name_any {C:Cx} {a:Nat} {w:World} (h:PS C a w):Calls Tryz.prog 114 #[Pp C] w fun e w'=>(isW C.L a=true∧e=.returned (.string (tx C.L a))∧Mv C w (a + 1) w') ∨ (isW C.L a=false∧e=.panicked (pan a)∧Mv C w a w'):=by
 have HP:=Lib.hid h
 have hlen:=C.len
 have hw:a < C.L.length → IntKind.i64.wrap ((a:Int) + 1)=(a:Int) + 1:=fun _=>IntWalk.i64_in _ (by omega)
 clear h
 by_cases hk:kd_ C.L a=0
 ·have hlt:a < C.L.length:=by
   rcases Nat.lt_or_ge a C.L.length with h1 | h1
   ·exact h1
   ·rw [kd_end h1] at hk; cases hk
  have hw:=hw hlt
  have hW:isW C.L a=isNameS (tx C.L a):=by unfold isW; rw [hk]; rfl
  obtain ⟨is,his⟩:∃ is,isNameS (tx C.L a)=is:=⟨_,rfl⟩
  rw [hW,his]
  have HIS:=Lib.hid his
  clear his hW
  go_enter Tryz.func114,Tryz.ntmps114
  cases is <;> go_wp2_with (first
   | (go_at_call 119; refine (peek_any HP.out).mono ?_; rintro r w1 ⟨rfl,x1⟩)
   | (go_at_call 168; refine (kind_any (HP.out.to x1)).mono ?_; rw [hk]; rintro r w2 ⟨rfl,x2⟩)
   | (go_at_call 86; refine (isName_any _ _ ((C.laid.ext HP.out.ext).ext (x1.trans x2))).mono ?_; rw [HIS.out]; rintro r w3 ⟨rfl,x3⟩; have HP1:=HP.out.to ((x1.trans x2).trans x3); obtain ⟨hm,h0,h1,hf⟩:=HP1.facts)
   | (go_at_call 169; refine (fail_any HP1).mono ?_; rintro r w4 ⟨rfl,rfl⟩))
  ·exact ⟨rfl,rfl,HP.out.mv ((x1.trans x2).trans x3)⟩
  ·go_ret
   exact ⟨rfl,(HP.out.mv ((x1.trans x2).trans x3)).trans (HP1.step hlt)⟩
 ·have hW:isW C.L a=false:=by unfold isW; rw [beq_eq_false_iff_ne.2 hk]; rfl
  have hkb:(kd_ C.L a != 0)=true:=by simpa using hk
  go_enter Tryz.func114,Tryz.ntmps114
  go_wp2_with (first
   | (go_at_call 119; refine (peek_any HP.out).mono ?_; rintro r w1 ⟨rfl,x1⟩)
   | (go_at_call 168; refine (kind_any (HP.out.to x1)).mono ?_; rintro r w2 ⟨rfl,x2⟩)
   | (go_at_call 169; refine (fail_any (HP.out.to (x1.trans x2))).mono ?_; rintro r w4 ⟨rfl,rfl⟩))
  exact ⟨rfl,.inr ⟨hW,rfl,HP.out.mv (x1.trans x2)⟩⟩
end Go.Proofs.YtmmnhbhnjiajhaaGreatDoor.c
