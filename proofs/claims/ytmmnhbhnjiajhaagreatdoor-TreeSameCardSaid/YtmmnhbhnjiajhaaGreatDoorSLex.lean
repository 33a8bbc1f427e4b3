/- Contracts of the functions of package lex that a name's test reaches: classes, run, IsWord, IsKey. Contracts of lex.IsWord and lex.IsKey. The table strings.asciiSpace holds what its text lays ('Laid'). -/
import Derived.Test.YtmmnhbhnjiajhaaGreatDoorSLib
import Derived.Test.YtmmnhbhnjiajhaaGreatDoorShelf
namespace Go.Proofs.YtmmnhbhnjiajhaaGreatDoor.c
open Go.RowKit
set_option linter.unusedVariables false
set_option maxRecDepth 100000
set_option maxHeartbeats 1600000
set_option linter.unusedSimpArgs false

def isLet (c:Nat):Bool:=(decide (97 ≤ c) && decide (c ≤ 122)) || (decide (65 ≤ c) && decide (c ≤ 90)) || c == 95
def isDig (c:Nat):Bool:=decide (48 ≤ c) && decide (c ≤ 57)
def cls (c:Nat):Int:=if isLet c then 2 else if isDig c then 3 else if c=32 ∨ c=10 then 1 else 0
def tab (f:Nat → Int):Array Value:=((List.range 256).map fun i=>Value.int .u8 (f i)).toArray
theorem tab_set (f:Nat → Int) (i:Nat) (v:Int):(tab f).setIfInBounds i (.int .u8 v)=tab (fun j=>if j=i then v else f j):=by
 apply Array.ext
 ·simp [tab]
 ·intro j h1 h2
  have hs:(tab f).size=256:=by simp [tab]
  by_cases h:i=j
  ·subst h
   simp [tab]
  ·rw [Array.getElem_setIfInBounds_ne (by rw [Array.size_setIfInBounds] at h1; exact h1) h]
   simp only [tab,List.getElem_toArray,List.getElem_map,List.getElem_range]
   rw [if_neg (fun e=>h e.symm)]
theorem tab_congr {f g:Nat → Int} (h:∀ i,i < 256 → f i=g i):tab f=tab g:=by
 unfold tab
 congr 1
 exact List.map_congr_left fun i hi=>by rw [h i (by simpa using hi)]
theorem tab_get (f:Nat → Int) (i:Nat) (h:i < 256):(tab f)[i]?=some (.int .u8 (f i)):=by
 simp [tab,h]
theorem tab_size (f:Nat → Int):(tab f).size=256:=by simp [tab]
def cl0 (k m:Nat) (c:Nat):Int :=
 if (97 ≤ c∧c < 97 + k) ∨ (65 ≤ c∧c < 65 + k) ∨ c=95 then 2 else if 48 ≤ c∧c < 48 + m then 3 else if c=32 ∨ c=10 then 1 else 0

theorem cl0_k (k m:Nat) (hk:k < 26):tab (fun j=>if j=k + 65 then 2 else if j=k + 97 then 2 else cl0 k m j)=tab (cl0 (k + 1) m):=by
 refine tab_congr fun i hi=>?_
 unfold cl0
 by_cases h1:i=k + 65
 ·rw [if_pos h1,if_pos (by omega)]
 ·rw [if_neg h1]
  by_cases h2:i=k + 97
  ·rw [if_pos h2,if_pos (by omega)]
  ·rw [if_neg h2]
   by_cases h3:(97 ≤ i∧i < 97 + k) ∨ (65 ≤ i∧i < 65 + k) ∨ i=95
   ·rw [if_pos h3,if_pos (by omega)]
   ·rw [if_neg h3]
    symm
    rw [if_neg (by omega)]
theorem cl0_m (m:Nat) (hm:m < 10):tab (fun j=>if j=m + 48 then 3 else cl0 26 m j)=tab (cl0 26 (m + 1)):=by
 refine tab_congr fun i hi=>?_
 unfold cl0
 by_cases h1:i=m + 48
 ·rw [if_pos h1,if_neg (by omega),if_pos (by omega)]
 ·rw [if_neg h1]
  by_cases h3:(97 ≤ i∧i < 97 + 26) ∨ (65 ≤ i∧i < 65 + 26) ∨ i=95
  ·rw [if_pos h3,if_pos h3]
  ·rw [if_neg h3,if_neg h3]
   by_cases h4:48 ≤ i∧i < 48 + m
   ·rw [if_pos h4,if_pos (by omega)]
   ·rw [if_neg h4]
    symm
    rw [if_neg (by omega)]
theorem cl0_end:tab (cl0 26 10)=tab cls:=by
 refine tab_congr fun i hi=>?_
 have:∀ i:Fin 256,cl0 26 10 i.1=cls i.1:=by decide +kernel
 exact this ⟨i,hi⟩
theorem tab_start:((((tab (fun _=>0)).setIfInBounds 32 (.int .u8 1)).setIfInBounds 10 (.int .u8 1)).setIfInBounds 95 (.int .u8 2))=tab (cl0 0 0):=by
 rw [tab_set,tab_set,tab_set]
 refine tab_congr fun i hi=>?_
 have:∀ i:Fin 256,(if i.1=95 then (2:Int) else if i.1=10 then 1 else if i.1=32 then 1 else 0)=cl0 0 0 i.1:=by decide +kernel
 exact this ⟨i,hi⟩
theorem tab_one (f:Nat → Int):∀ v ∈ (tab f).toList,v.oneCell'=true:=by
 intro v hv
 simp only [tab,List.mem_map] at hv
 obtain ⟨i,_,rfl⟩:=hv
 rfl

theorem classes_any (w:World) :
  Calls Tryz.prog 77 #[] w fun e w'=>e=.returned (.agg (tab cls))∧Ext w w':=by
 have hz0:Tryz.zeroCells129 = tab (fun _=>0):=by kernel_rfl
 have HZ0:=Lib.hid hz0
 clear hz0
 go_enter Tryz.func77,Tryz.ntmps77
 go_wp2_with fail
 have hz0:=HZ0.out
 go_loopw [2] (fun v wr=>∃ k:Nat,k ≤ 26∧v=.int .u8 ((k:Int) + 97)∧Ext w wr∧Blk wr w.heap.size 129 (tab fun _=>0)∧Blk wr (w.heap.size + 1) 129 (tab (cl0 k 0))) (fun v _=>200 - (intOf v).toNat)
 case atStart =>
  refine ⟨0,by omega,rfl,exO,?_,?_⟩
  ·rw [← hz0]
   exact Blk.alloc (Blk.new _ _ _) _
  ·rw [← tab_start,← hz0,← size_alloc w (.cells Tryz.zeroCells129 129)]
   exact Blk.new _ _ _
 case round =>
  clear hz0
  obtain ⟨k,hk,rfl,hx,hb0,hb1⟩:=hrel
  have hl:=hb1.lt
  by_cases hlt:k < 26
  ·have ca:=hb1.cell (k + 97)
   have cb:=hb1.cell (k + 65)
   have fa:=hb1.frozen (k + 97)
   have fb:=hb1.frozen (k + 65)
   rw [tab_get _ _ (by omega)] at ca cb
   have H1:=Lib.hid hb1
   have H0:=Lib.hid hb0
   clear hb1 hb0
   go_wp2_with fail
   case roundEnd =>
    refine ⟨⟨k + 1,by omega,by go_num,exO,?_,?_⟩,by simp [intOf]; omega⟩
    ·exact (H0.out.far (by simp) _).far (by simp) _
    ·rw [← cl0_k k 0 hlt,← tab_set,← tab_set]
     exact (H1.out.set_ _ _).set_ _ _
  ·have H1:=Lib.hid hb1
   have H0:=Lib.hid hb0
   clear hb1 hb0
   obtain rfl:k=26:=by omega
   go_wp2_with fail
   go_loopw [3] (fun v wr=>∃ k:Nat,k ≤ 10∧v=.int .u8 ((k:Int) + 48)∧Ext w wr∧Blk wr w.heap.size 129 (tab fun _=>0)∧Blk wr (w.heap.size + 1) 129 (tab (cl0 26 k))) (fun v _=>200 - (intOf v).toNat)
   case atStart=>exact ⟨0,by omega,rfl,hx,H0.out,H1.out⟩
   case round =>
    clear H0 H1 hx hl
    obtain ⟨k,hk,rfl,hx,hb0,hb1⟩:=hrel
    have hl:=hb1.lt
    by_cases hlt:k < 10
    ·have ca:=hb1.cell (k + 48)
     have fa:=hb1.frozen (k + 48)
     rw [tab_get _ _ (by omega)] at ca
     have H1:=Lib.hid hb1
     have H0:=Lib.hid hb0
     clear hb1 hb0
     go_wp2_with fail
     case roundEnd =>
      refine ⟨⟨k + 1,by omega,by go_num,exO,?_,?_⟩,by simp [intOf]; omega⟩
      ·exact H0.out.far (by simp) _
      ·rw [← cl0_m k hlt,← tab_set]
       exact H1.out.set_ _ _
    ·obtain rfl:k=10:=by omega
     have HE:=Lib.hid hb1
     have H0:=Lib.hid hb0
     clear hb1 hb0
     have H2:Hid (Blk wr (w.heap.size + 1) 129 (tab cls)):=by rw [← cl0_end]; exact HE.out
     have hsz:(Tryz.prog.info? 129).map (·.size)=some (tab cls).size:=by rw [tab_size]; kernel_rfl
     have HZ:=Lib.hid hsz
     clear hsz
     go_wp2_with (first
      | (refine wpList_load_row rfl 129 _ rfl (w.heap.size + 1) rfl 129 (tab cls) (0,0) _ H2.out Tryz.underlying129 rfl HZ.out ?_)
      | (refine wpList_store_row rfl 129 _ _ rfl w.heap.size rfl 129 (tab fun _=>0) (tab cls) H0.out rfl (by rw [tab_size,tab_size]) (tab_one cls) HZ.out ?_))
     exact bodyPost_ret (v:=.agg (tab cls)) (results_cell_row rfl _ _ w.heap.size 129 (tab cls) (0,0) _ rfl (H0.out.row _) Tryz.underlying129 rfl HZ.out) rfl ⟨rfl,hx.setRow (Nat.le_refl _) _⟩

theorem takeWhile_len (p:UInt8 → Bool) (L:List UInt8) (k:Nat) (hk:k ≤ L.length) (h:(L.take k).all p=true) (he:∀ c,L[k]?=some c → p c=false):(L.takeWhile p).length=k:=by
 induction L generalizing k with
 | nil=>simp at hk; simp [hk]
 | cons c L ih =>
  cases k with
  | zero =>
   have:=he c (by simp)
   simp [this]
  | succ k =>
   simp only [List.take_succ_cons,List.all_cons,Bool.and_eq_true] at h
   simp only [List.takeWhile_cons,h.1,if_true,List.length_cons]
   rw [ih k (by simpa using hk) h.2 (fun d hd=>he d (by simpa using hd))]
theorem cls_ge (c:Nat):decide (2 ≤ cls c)=(isLet c || isDig c):=by
 unfold cls
 cases h1:isLet c
 ·cases h2:isDig c
  ·by_cases h:c=32 ∨ c=10 <;> simp [h]
  ·simp
 ·simp

def okB (c:UInt8):Bool:=isLet c.toNat || isDig c.toNat
theorem run_any (b off:Nat) (s:ByteArray) (w:World) (hs:s.size ≤ 4611686018427387904) (hbw:b < w.heap.size)
  (hc:∀ j,j < 256 → w.cell? ⟨b,off + j,none⟩=some (.int .u8 (cls j))) :
  Calls Tryz.prog 129 #[.pointer (some ⟨b,off,none⟩),.string s] w fun e w'=>e=.returned (.int .i64 (s.data.toList.takeWhile okB).length)∧Ext w w':=by
 have HC:=Lib.hid hc
 clear hc
 have HL:=Lib.hid (Lib.size_eq s)
 go_enter Tryz.func129,Tryz.ntmps129
 go_wp2_with fail
 go_loopw [5] (fun n wr=>∃ k:Nat,k ≤ s.size∧n=.int .i64 k∧(s.data.toList.take k).all okB=true∧Ext w wr) (fun n _=>s.size - (intOf n).toNat)
 case atStart=>exact ⟨0,by omega,rfl,rfl,Ext.refl _⟩
 case round =>
  obtain ⟨k,hk,rfl,hall,hx⟩:=hrel
  have HA:=Lib.hid hall
  clear hall
  by_cases hlt:k < s.size
  ·have hcell:=(hx.cell (p:=⟨b,off + (s[k]'hlt).toNat,none⟩) hbw).trans (HC.out (s[k]'hlt).toNat (UInt8.toNat_lt _))
   have hb256:((s[k]'hlt).toNat:Int) < 256:=by have:=UInt8.toNat_lt (s[k]'hlt); omega
   have hk':k < s.data.toList.length:=by have:=HL.out; omega
   have hge:Hid (s.data.toList[k]?=some (s[k]'hlt)):=List.getElem?_eq_getElem hk'
   have HG:=Lib.hid (cls_ge (s[k]'hlt).toNat)
   have HS:Hid ((s.data.toList.take (k + 1)).all okB=okB (s[k]'hlt)):=by
    unfold Hid
    rw [List.take_add_one,hge.out]
    simp [HA.out]
   go_wp2_with fail
   go_quiet (fail)
   go_wp2_with fail
   case roundEnd =>
    have h2:2 ≤ cls (s[k]'hlt).toNat:=by assumption
    refine ⟨⟨k + 1,by omega,by go_num,by rw [HS.out]; unfold okB; rw [← HG.out]; simpa using h2,hx.drewN _⟩,by simp [intOf]; omega⟩
   all_goals
    have h2:cls (s[k]'hlt).toNat < 2:=by assumption
    go_ret
    exact ⟨ret_int (by rw [takeWhile_len okB _ k (by omega) HA.out (fun c hc=>by rw [hge.out] at hc; injection hc with hc; rw [← hc]; unfold okB; rw [← HG.out]; simp; omega)]),hx.drewN _⟩
  ·go_wp2_with fail
   have hd:decide ((k:Int) < (s.size:Int))=false:=by simp; omega
   go_quiet (fail)
   go_wp2_with fail
   have hk':k=s.data.toList.length:=by have:=HL.out; omega
   go_ret
   exact ⟨ret_int (by rw [takeWhile_len okB _ k (by omega) HA.out (fun c hc=>by rw [List.getElem?_eq_none (by omega)] at hc; cases hc)]),hx.drewN _⟩

def Laid (w:World):Prop:=Lib.TabIs Tryz.prog w "strings.asciiSpace" .u8 Lib.asciiSpaceTab
theorem Laid.ext {w w':World} (h:Laid w) (x:Ext w w'):Laid w':=by
 have hg:Tryz.prog.globalNamed "strings.asciiSpace" = some 1 := by kernel_rfl
 have hv:w.var? Tryz.prog "strings.asciiSpace" = some _:=h
 have hlt : 1 < w.heap.size:=by
  unfold World.var? at hv
  rw [hg] at hv
  simp only [Option.bind_some] at hv
  rcases Nat.lt_or_ge 1 w.heap.size with h1 | h1
  ·exact h1
  ·rw [Array.getElem?_eq_none h1] at hv
   cases hv
 exact var?_below x.out hg hlt hv

def wordS (L:List UInt8):Bool:=match L with | []=>false | c :: _=>isLet c.toNat && L.all okB
theorem word_nil {s:ByteArray} (h:s.size=0):wordS s.data.toList=false:=by
 rw [Lib.size_eq] at h
 rw [List.eq_nil_of_length_eq_zero h]
 rfl
theorem tw_all (L:List UInt8):((L.takeWhile okB).length == L.length)=L.all okB:=by
 induction L with
 | nil=>rfl
 | cons c L ih =>
  simp only [List.takeWhile_cons,List.all_cons]
  cases okB c
  ·simp
  ·simp only [if_true,List.length_cons,Bool.true_and,← ih]
   rw [Bool.eq_iff_iff]; simp
theorem word_cons {s:ByteArray} (h:0 < s.size):wordS s.data.toList=(isLet (s[0]).toNat && ((s.data.toList.takeWhile okB).length == s.size)):=by
 have h':0 < s.data.toList.length:=by rw [← Lib.size_eq]; exact h
 have e:s.data.toList[0]=s[0]:=rfl
 rw [Lib.size_eq,tw_all]
 cases hl:s.data.toList with
 | nil=>simp [hl] at h'
 | cons c r =>
  have:s[0]=c:=by rw [← e]; simp [hl]
  rw [this]
  rfl
theorem cls_two (c:Nat):(cls c == 2)=isLet c:=by
 unfold cls
 cases isLet c
 ·cases isDig c
  ·by_cases h:c=32 ∨ c=10 <;> simp [h]
  ·rfl
 ·rfl

theorem isWord_any (s:ByteArray) (w:World) (hs:s.size ≤ 4611686018427387904) :
  Calls Tryz.prog 136 #[.string s] w fun e w'=>e=.returned (.bool (wordS s.data.toList))∧Ext w w':=by
 have hz0:Tryz.zeroCells129 = tab (fun _=>0):=by kernel_rfl
 have HZ0:=Lib.hid hz0
 clear hz0
 have hsz:(Tryz.prog.info? 129).map (·.size)=some (tab cls).size:=by rw [tab_size]; kernel_rfl
 have HZ:=Lib.hid hsz
 clear hsz
 by_cases h0:0 < s.size
 ·have hne:s.toList.isEmpty=false:=by
   rw [Lib.toList_data]
   cases hl:s.data.toList with
   | nil=>rw [Lib.size_eq,hl] at h0; simp at h0
   | cons c r=>rfl
  have hb256:((s[0]'h0).toNat:Int) < 256:=by have:=UInt8.toNat_lt (s[0]'h0); omega
  have HW:=Lib.hid (word_cons h0)
  have HC:=Lib.hid (cls_two (s[0]'h0).toNat)
  go_enter Tryz.func136,Tryz.ntmps136
  go_wp2_with (first
   | (go_at_call 77; refine (classes_any _).mono ?_; rintro e w1 ⟨rfl,x1⟩)
   | (refine wpList_store_row rfl 129 _ _ rfl w1.heap.size rfl 129 (tab fun _=>0) (tab cls) (by rw [← HZ0.out]; exact Blk.new _ _ _) rfl (by rw [tab_size,tab_size]) (tab_one cls) HZ.out ?_; have HB:=Lib.hid (Blk.row (Blk.new w1 129 Tryz.zeroCells129) (tab cls)); generalize hw2:(w1.alloc (.cells Tryz.zeroCells129 129)).setRow w1.heap.size (tab cls)=w2 at *; have HX:=Lib.hid hw2; clear hw2; have x2:Ext w w2:=(by rw [← HX.out]; exact (x1.alloc _).setRow x1.size _); have hcell:=(HB.out.cell (s[0]'h0).toNat).trans (tab_get cls _ (UInt8.toNat_lt _)))
   | (go_at_call 129; refine (run_any _ _ _ _ hs HB.out.lt (fun j hj=>by rw [Nat.zero_add]; exact (HB.out.cell j).trans (tab_get cls j hj))).mono ?_; rintro e w3 ⟨rfl,x3⟩))
  all_goals
   go_ret
   first
    | (have h2:cls (s[0]'h0).toNat=2:=by assumption
       exact ⟨ret_bool (by rw [HW.out,← HC.out,h2,Bool.eq_iff_iff]; simp; omega),x2.trans x3⟩)
    | (have h2:¬ cls (s[0]'h0).toNat=2:=by assumption
       exact ⟨ret_bool (by rw [HW.out,← HC.out]; simp [h2]),x2⟩)
 ·have hne:s.toList.isEmpty=true:=by
   rw [Lib.toList_data]
   cases hl:s.data.toList with
   | nil=>rfl
   | cons c r=>rw [Lib.size_eq,hl] at h0; simp at h0
  have HW:=Lib.hid (word_nil (s:=s) (by omega))
  go_enter Tryz.func136,Tryz.ntmps136
  go_wp2_with (first
   | (go_at_call 77; refine (classes_any _).mono ?_; rintro e w1 ⟨rfl,x1⟩)
   | (refine wpList_store_row rfl 129 _ _ rfl w1.heap.size rfl 129 (tab fun _=>0) (tab cls) (by rw [← HZ0.out]; exact Blk.new _ _ _) rfl (by rw [tab_size,tab_size]) (tab_one cls) HZ.out ?_))
  go_ret
  exact ⟨ret_bool HW.out.symm,(x1.alloc _).setRow x1.size _⟩

def keysB:List ByteArray:=[⟨#[102,110]⟩,⟨#[99,111,110,115,116]⟩,⟨#[118,97,114]⟩,⟨#[99,111,109,112,116,105,109,101]⟩,⟨#[114,101,116,117,114,110]⟩,⟨#[101,114,114,111,114]⟩,⟨#[105,102]⟩,⟨#[101,108,115,101]⟩,⟨#[119,104,105,108,101]⟩,⟨#[102,111,114]⟩,⟨#[105,110,108,105,110,101]⟩,⟨#[115,119,105,116,99,104]⟩,⟨#[100,101,102,101,114]⟩,⟨#[101,114,114,100,101,102,101,114]⟩,⟨#[98,114,101,97,107]⟩,⟨#[99,111,110,116,105,110,117,101]⟩,⟨#[103,105,118,101]⟩,⟨#[117,110,114,101,97,99,104,97,98,108,101]⟩,⟨#[116,114,117,101]⟩,⟨#[102,97,108,115,101]⟩,⟨#[97,110,100]⟩,⟨#[111,114]⟩,⟨#[116,114,121]⟩,⟨#[99,97,116,99,104]⟩,⟨#[111,114,101,108,115,101]⟩,⟨#[100,111]⟩,⟨#[118,111,105,100]⟩,⟨#[98,111,111,108]⟩,⟨#[116,121,112,101]⟩,⟨#[95]⟩]
def signsB:List ByteArray:=[⟨#[61,61]⟩,⟨#[33,61]⟩,⟨#[60,61]⟩,⟨#[62,61]⟩,⟨#[43,37]⟩,⟨#[43,124]⟩,⟨#[45,37]⟩,⟨#[45,124]⟩,⟨#[42,37]⟩,⟨#[46,46]⟩,⟨#[46,63]⟩,⟨#[61,62]⟩,⟨#[40]⟩,⟨#[41]⟩,⟨#[123]⟩,⟨#[125]⟩,⟨#[44]⟩,⟨#[59]⟩,⟨#[58]⟩,⟨#[61]⟩,⟨#[33]⟩,⟨#[60]⟩,⟨#[62]⟩,⟨#[43]⟩,⟨#[45]⟩,⟨#[42]⟩,⟨#[47]⟩,⟨#[37]⟩,⟨#[38]⟩,⟨#[124]⟩,⟨#[94]⟩,⟨#[63]⟩,⟨#[46]⟩]

def keyS (s:ByteArray):Bool:=keysB.any (fun k=>k.data.toList == s.data.toList)
theorem keyS_iff (s:ByteArray):keyS s=true ↔ s ∈ keysB:=by
 unfold keyS
 rw [List.any_eq_true]
 constructor
 ·rintro ⟨k,hk,he⟩
  have:k=s:=ByteArray.ext (Array.toList_inj.1 (by simpa using he))
  exact this ▸ hk
 ·intro h
  exact ⟨s,h,by simp⟩
def keyText:ByteArray:=⟨((([102,110,32,99,111,110,115,116,32,118,97,114,32,99,111,109,112,116,105,109,101,32,114,101,116,117,114,110,32,101,114,114,111,114,32,105,102,32,101,108,115,101].append [32,119,104,105,108,101,32,102,111,114,32,105,110,108,105,110,101,32,115,119,105,116,99,104,32,100,101,102,101,114,32,101,114,114,100,101,102,101,114,32,98,114]).append ([101,97,107,32,99,111,110,116,105,110,117,101,32,103,105,118,101,32,117,110,114,101,97,99,104,97,98,108,101,32,116,114,117,101,32,102,97,108,115,101,32,97].append [110,100,32,111,114,32,116,114,121,32,99,97,116,99,104,32,111,114,101,108,115,101,32,100,111,32,118,111,105,100,32,98,111,111,108,32,116,121,112,101,32,95]))).toArray⟩
theorem key_fields:(Lib.fields keyText.data.toList).map (fun l=>(⟨l.toArray⟩:ByteArray))=keysB:=by decide +kernel
theorem key_ascii:∀ (j:Nat) b,keyText.data.toList[j]?=some b → b.toNat < 128:=by
 have h:keyText.data.toList.all (fun b=>decide (b.toNat < 128))=true:=by decide +kernel
 intro j b hb
 have:=List.all_eq_true.1 h b (List.mem_of_getElem? hb)
 simpa using this

theorem isKey_any (s:ByteArray) (w:World) (g:Laid w) :
  Calls Tryz.prog 137 #[.string s] w fun e w'=>e=.returned (.bool (keyS s))∧Ext w w':=by
 have HF:Hid (Calls Tryz.prog 192 #[.string keyText] w fun e w'=>e=.returned (.slice (some ⟨w.heap.size,0,none⟩) 30 30)∧Blk w' w.heap.size 9 (keysB.map Value.string).toArray∧Ext w w'):=by
  refine (Tryz.strings_Fields keyText w (by decide +kernel) key_ascii g).mono ?_
  rintro e w' ⟨rfl,rfl⟩
  have e1:(Lib.fields keyText.data.toList).length=30:=by decide +kernel
  rw [e1]
  refine ⟨rfl,?_,(Ext.refl _).alloc _⟩
  rw [← key_fields,List.map_map]
  exact Blk.new _ _ _
 go_enter Tryz.func137,Tryz.ntmps137
 go_wp2_with fail
 refine HF.out.mono ?_
 rintro e w1 ⟨rfl,hb,x1⟩
 have HB:=Lib.hid hb
 clear hb
 go_wp2_with fail
 refine (Tryz.slices_Contains_string w.heap.size 0 30 30 keysB s _ (by decide) (by decide) (fun j hj=>?_)).mono ?_
 ·rw [Nat.zero_add,HB.out.cell j]
  have:j < keysB.length:=hj
  simp [List.getD,this]
 ·rintro e w2 ⟨rfl,rfl⟩
  go_wp2_with fail
  go_ret
  refine ⟨ret_bool ?_,x1⟩
  rw [Bool.eq_iff_iff,keyS_iff,← Lib.containsS_iff]
  have:keysB.take 30=keysB:=by decide +kernel
  rw [this]
end Go.Proofs.YtmmnhbhnjiajhaaGreatDoor.c
