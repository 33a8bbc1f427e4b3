/- The type with a text, as a plain function; reading undoes writing, and writing undoes reading. No condition. The deferred closure of tree.Parse: what it does where the parser has panicked, and where it has not. No condition but the results' cells. Contracts: the type with a text and the text of a type, by the program and by the reference. The table strings.asciiSpace holds what its text lays; texts are no longer than memory reaches. Contracts: the text of any type by the program and by the reference; the type with a text by the reference. The table strings.asciiSpace holds what its text lays (the program alone). -/
import Derived.Test.YtobfbfbjccmbiaaGreatDoorAri
import Derived.Test.YtobfbfbjccmbiaaGreatDoorTs
import Derived.Test.YtobfbfbjccmbiaaGreatDoorUu
import Derived.Test.YtobfbfbjccmbiaaGreatDoorVg
import Derived.Test.YtobfbfbjccmbiaaGreatDoorVd
import Derived.Defers
import Derived.Recover
import Derived.Test.YtobfbfbjccmbiaaGreatDoorTt
import Derived.Test.YtobfbfbjccmbiaaGreatDoorTty
namespace Go.Proofs.YtobfbfbjccmbiaaGreatDoor.c
open Go.RowKit
set_option linter.unusedVariables false
set_option maxRecDepth 100000
set_option maxHeartbeats 1600000
set_option linter.unusedSimpArgs false
def cutB (l:List UInt8) (c:UInt8):Bool × List UInt8:=match l with
 | []=>(false,[])
 | d :: r=>if d=c then (true,r) else (false,d :: r)
def rdT (l:List UInt8):Option Ty :=
 let p:=cutB l 33
 let q:=cutB p.2 63
 let b:=baseS ⟨q.2.toArray⟩
 let t:Ty:=⟨b.1.base,b.1.bits,b.1.name,q.1,p.1⟩
 if b.2=true∧isTypeS t=true then some t else none
theorem ne_list {s:ByteArray} {l:List UInt8} (h:s.data.toList ≠ l):s ≠ ⟨l.toArray⟩:=fun e=>h (by rw [e])
theorem ty_eq {t:Ty} {a b:Int} {n:ByteArray} {o e:Bool} (h1:t.base=a) (h2:t.bits=b) (h3:t.name.data.toList=n.data.toList) (h4:t.opt=o) (h5:t.err=e):t=⟨a,b,n,o,e⟩:=by
 cases t
 simp only at h1 h2 h3 h4 h5
 rw [h1,h2,bytes_inj h3,h4,h5]
theorem baseS_of {t:Ty} (h:isTypeS t=true):(baseS ⟨(baseT t).toArray⟩).2=true∧(baseS ⟨(baseT t).toArray⟩).1.base=t.base∧(baseS ⟨(baseT t).toArray⟩).1.bits=t.bits∧(baseS ⟨(baseT t).toArray⟩).1.name.data.toList=t.name.data.toList:=by
 rcases type_cases h with ⟨s,k,e,hk,hb,hn⟩ | ⟨e,hb,hn⟩ | ⟨e,hb,hn⟩
 ·rw [base_num e hb,e,hb,emp_eq hn]
  obtain ⟨h1,h2,h3⟩:=tname_ne s (k + 1)
  have hr:readS (⟨(tname s (k + 1)).toArray⟩:ByteArray).data.toList=some (s,((k + 1:Nat):Int)):=(readS_iff _ s _).2 ⟨k,hk,rfl,by simp⟩
  unfold baseS
  rw [if_neg (ne_list (l:=[118,111,105,100]) (by simpa [voidT] using h1)),if_neg (ne_list (l:=[98,111,111,108]) (by simpa [boolT] using h2)),if_neg (ne_list (l:=[116,121,112,101]) (by simpa [typT] using h3)),hr]
  exact ⟨rfl,rfl,rfl,rfl⟩
 ·rw [base_name e,e,hb]
  obtain ⟨h1,h2,h3⟩:=name_key hn
  have hs:(⟨t.name.data.toList.toArray⟩:ByteArray)=t.name:=bytes_inj rfl
  rw [hs]
  unfold baseS
  rw [if_neg (ne_list (l:=[118,111,105,100]) h1),if_neg (ne_list (l:=[98,111,111,108]) h2),if_neg (ne_list (l:=[116,121,112,101]) h3),name_read hn]
  exact ⟨hn,rfl,rfl,rfl⟩
 ·rw [hb,emp_eq hn]
  rcases e with e | e | e
  ·rw [show baseT t=voidT by unfold baseT; simp [e],e]
   unfold baseS
   rw [if_pos (show (⟨voidT.toArray⟩:ByteArray)=⟨#[118,111,105,100]⟩ from rfl)]
   exact ⟨rfl,rfl,rfl,rfl⟩
  ·rw [show baseT t=boolT by unfold baseT; simp [e],e]
   unfold baseS
   rw [if_neg (by decide),if_pos (show (⟨boolT.toArray⟩:ByteArray)=⟨#[98,111,111,108]⟩ from rfl)]
   exact ⟨rfl,rfl,rfl,rfl⟩
  ·rw [show baseT t=typT by unfold baseT; simp [e],e]
   unfold baseS
   rw [if_neg (by decide),if_neg (by decide),if_pos (show (⟨typT.toArray⟩:ByteArray)=⟨#[116,121,112,101]⟩ from rfl)]
   exact ⟨rfl,rfl,rfl,rfl⟩
theorem rdT_typeT {t:Ty} (h:isTypeS t=true):rdT (typeT t)=some t:=by
 obtain ⟨⟨c,r,e1,hc⟩,_⟩:=base_ok h
 obtain ⟨c1,c2,_⟩:=let_ne hc
 obtain ⟨h1,h2,h3,h4⟩:=baseS_of h
 have k:∀ (p q:Bool),t.err=p → t.opt=q → cutB (typeT t) 33=(p,(if q then [63] else []) ++ baseT t)∧cutB ((if q then [63] else []) ++ baseT t) 63=(q,baseT t):=by
  intro p q hp hq
  unfold typeT
  rw [hp,hq,e1]
  cases p <;> cases q <;> simp [cutB,c1,c2]
 obtain ⟨k1,k2⟩:=k _ _ rfl rfl
 have he:(⟨(baseS ⟨(baseT t).toArray⟩).1.base,(baseS ⟨(baseT t).toArray⟩).1.bits,(baseS ⟨(baseT t).toArray⟩).1.name,t.opt,t.err⟩:Ty)=t:=(ty_eq h2.symm h3.symm h4.symm rfl rfl).symm
 unfold rdT
 simp only [k1,k2,he]
 rw [if_pos ⟨h1,h⟩]
theorem baseT_of {s:ByteArray} {o e:Bool} (h:(baseS s).2=true) (ht:isTypeS ⟨(baseS s).1.base,(baseS s).1.bits,(baseS s).1.name,o,e⟩=true):baseT ⟨(baseS s).1.base,(baseS s).1.bits,(baseS s).1.name,o,e⟩=s.data.toList:=by
 unfold baseS at h ht ⊢
 by_cases h1:s=⟨#[118,111,105,100]⟩
 ·rw [if_pos h1,h1]; rfl
 rw [if_neg h1] at h ht ⊢
 by_cases h2:s=⟨#[98,111,111,108]⟩
 ·rw [if_pos h2,h2]; rfl
 rw [if_neg h2] at h ht ⊢
 by_cases h3:s=⟨#[116,121,112,101]⟩
 ·rw [if_pos h3,h3]; rfl
 rw [if_neg h3] at h ht ⊢
 cases hr:readS s.data.toList with
 | none=>exact base_name rfl
 | some p =>
  obtain ⟨sg,m⟩:=p
  obtain ⟨k,hk,hm,hl⟩:=(readS_iff _ sg m).1 hr
  rw [← hl]
  exact base_num rfl hm
theorem typeT_rdT {l:List UInt8} {t:Ty} (h:rdT l=some t):isTypeS t=true∧typeT t=l:=by
 unfold rdT at h
 simp only at h
 split at h
 ·rename_i hc
  obtain rfl:=Option.some.inj h
  refine ⟨hc.2,?_⟩
  unfold typeT
  rw [baseT_of hc.1 hc.2]
  simp only [List.toList_toArray]
  generalize hp:cutB l 33=p
  generalize hq:cutB p.2 63=q
  have h2:(if q.1=true then [63] else []) ++ q.2=p.2:=by
   rw [← hq]
   cases p.2 with
   | nil=>rfl
   | cons d r=>simp only [cutB]; split <;> simp_all
  rw [h2,← hp]
  cases l with
  | nil=>rfl
  | cons d r=>simp only [cutB]; split <;> simp_all
 ·cases h
theorem as_wrong (t:TypeId) (v:Value) (w:World):(Instr.typeAssert (.iface 53 v) t 53 true).run Tryz.prog w=.ok (.tuple #[v,.bool true]) w:=by kernel_rfl
theorem as_nil (t:TypeId) (w:World):(Instr.typeAssert .nilIface t 53 true).run Tryz.prog w=.ok (.tuple #[.int .i64 0,.bool false]) w:=by kernel_rfl
theorem catch_panic (b2 b3 b4:Nat) (k:Nat) (older:List PanicEntry) (w:World) {x2 x3 x4:Value} (k2:Blk w b2 23 #[x2]) (k3:Blk w b3 3 #[x3]) (k4:Blk w b4 24 #[x4]) (h23:b2 ≠ b3) (h24:b2 ≠ b4) (h34:b3 ≠ b4) (h2:x2.oneCell'=true) :
  CallsD Tryz.prog 20 #[.pointer (some ⟨b2,0,none⟩),.pointer (some ⟨b3,0,none⟩),.pointer (some ⟨b4,0,none⟩)] (.panicking ({ v:=.iface 53 (.int .i64 k),recovered:=false } :: older)) w fun e u' w' =>
   e=.returned (.tuple #[])∧u'=.panicking ({ v:=.iface 53 (.int .i64 k),recovered:=true } :: older)∧w'=((w.setCell ⟨b2,0,none⟩ (.slice none 0 0)).setCell ⟨b3,0,none⟩ (.int .i64 k)).setCell ⟨b4,0,none⟩ (.int .i64 2):=by
 have c2:w.cell? ⟨b2,0,none⟩=some x2:=k2.cell 0
 have c3:w.cell? ⟨b3,0,none⟩=some x3:=k3.cell 0
 have c4:w.cell? ⟨b4,0,none⟩=some x4:=k4.cell 0
 have z2:=k2.frozen
 have z3:=k3.frozen
 have z4:=k4.frozen
 refine callsD_of_wpS Tryz.func20 rfl fun c₀ cs hu=>?_
 apply wpS_seq
 apply wpS_region
 simp [wpOpsS,go_sem,recoverD,hu,Tryz.ntmps20,Exit.thenS]
 have hta:=fun t=>as_wrong t (.int .i64 k) w
 refine wpS_of_wp ?_
 simp only [Array.replicate_succ,Array.replicate_zero,List.push_toArray,List.append_toArray,List.nil_append,List.cons_append,List.setIfInBounds_toArray,List.set]
 go_wp2_with fail
 simp [bodyPostS,results,Tryz.results20,hu]
theorem catch_idle (b2 b3 b4:Nat) (w:World) :
  CallsD Tryz.prog 20 #[.pointer (some ⟨b2,0,none⟩),.pointer (some ⟨b3,0,none⟩),.pointer (some ⟨b4,0,none⟩)] .returning w fun e u' w'=>e=.returned (.tuple #[])∧u'=.returning∧w'=w:=by
 refine callsD_of_wpS Tryz.func20 rfl fun c₀ cs hu=>?_
 apply wpS_seq
 apply wpS_region
 simp [wpOpsS,go_sem,recoverD,hu,Tryz.ntmps20,Exit.thenS]
 have hta:=fun t=>as_nil t w
 refine wpS_of_wp ?_
 simp only [Array.replicate_succ,Array.replicate_zero,List.push_toArray,List.append_toArray,List.nil_append,List.cons_append,List.setIfInBounds_toArray,List.set]
 go_wp2_with fail
 cases c₀
 simp_all [bodyPostS,results,Tryz.results20]
def rdE (l:List UInt8):Ty × Int:=match rdT l with
 | some t=>(t,0)
 | none=>(tZ,2)
def txE (t:Ty):List UInt8 × Int:=if isTypeS t=true then (typeT t,0) else ([],1)
theorem cutB_prefix (l:List UInt8) (c:UInt8):Lib.hasPrefix l [c]=(cutB l c).1∧Lib.trimPrefix l [c]=(cutB l c).2:=by
 cases l with
 | nil=>simp [Lib.hasPrefix,Lib.trimPrefix,cutB]
 | cons d r =>
  by_cases h:d=c
  ·subst h; simp [Lib.hasPrefix,Lib.trimPrefix,cutB]
  ·have h2:¬ c=d:=fun e=>h e.symm
   have h3:[c].isPrefixOf (d :: r)=false:=by simp [List.isPrefixOf,h2]
   simp [Lib.hasPrefix,Lib.trimPrefix,cutB,h,h3]
theorem cut_any (s:ByteArray) (c:UInt8) (w:World):Calls Tryz.prog 30 #[.string s,.string ⟨#[c]⟩] w fun e w'=>e=.returned (.tuple #[.string ⟨(cutB s.data.toList c).2.toArray⟩,.bool (cutB s.data.toList c).1])∧w=w':=by
 refine (Tryz.strings_CutPrefix s ⟨#[c]⟩ w).mono fun e w' h=>⟨?_,h.2.symm⟩
 obtain ⟨h1,h2⟩:=cutB_prefix s.data.toList c
 rw [h.1,← h1,← h2]
theorem cutB_len (l:List UInt8) (c:UInt8):(cutB l c).2.length ≤ l.length:=by
 cases l with
 | nil=>simp [cutB]
 | cons d r=>simp only [cutB]; split <;> simp
theorem ba_len (l:List UInt8):(⟨l.toArray⟩:ByteArray).size=l.length:=by simp [ByteArray.size]
theorem rdE_eq (l:List UInt8):rdE l=(if (baseS ⟨(cutB (cutB l 33).2 63).2.toArray⟩).2=true∧isTypeS ⟨(baseS ⟨(cutB (cutB l 33).2 63).2.toArray⟩).1.base,(baseS ⟨(cutB (cutB l 33).2 63).2.toArray⟩).1.bits,(baseS ⟨(cutB (cutB l 33).2 63).2.toArray⟩).1.name,(cutB (cutB l 33).2 63).1,(cutB l 33).1⟩=true
  then (⟨(baseS ⟨(cutB (cutB l 33).2 63).2.toArray⟩).1.base,(baseS ⟨(cutB (cutB l 33).2 63).2.toArray⟩).1.bits,(baseS ⟨(cutB (cutB l 33).2 63).2.toArray⟩).1.name,(cutB (cutB l 33).2 63).1,(cutB l 33).1⟩,0) else (tZ,2)):=by
 unfold rdE rdT
 simp only
 by_cases hc:(baseS ⟨(cutB (cutB l 33).2 63).2.toArray⟩).2=true∧isTypeS ⟨(baseS ⟨(cutB (cutB l 33).2 63).2.toArray⟩).1.base,(baseS ⟨(cutB (cutB l 33).2 63).2.toArray⟩).1.bits,(baseS ⟨(cutB (cutB l 33).2 63).2.toArray⟩).1.name,(cutB (cutB l 33).2 63).1,(cutB l 33).1⟩=true
 ·rw [if_pos hc,if_pos hc]
 ·rw [if_neg hc,if_neg hc]
theorem readType_any (s:ByteArray) (w:World) (hs:s.size ≤ 4611686018427387904) (g:Laid w):Calls Tryz.prog 12 #[.string s] w fun e w'=>e=.returned (.tuple #[.agg (tyA (rdE s.data.toList).1),.int .i64 (rdE s.data.toList).2])∧Ext w w':=by
 have HZ:Hid ((Tryz.prog.info? 30).map (·.size)=some 5):=by unfold Hid; kernel_rfl
 rw [rdE_eq]
 have HC:=Lib.hid (cut_any s 33)
 have hl1:=cutB_len s.data.toList 33
 generalize cutB s.data.toList 33=p at *
 obtain ⟨er,r1⟩:=p
 simp only at hl1 ⊢ HC
 have HC2:=Lib.hid (cut_any ⟨r1.toArray⟩ 63)
 simp only [List.toList_toArray] at HC2
 have hl2:=cutB_len r1 63
 generalize cutB r1 63=q at *
 obtain ⟨op,r2⟩:=q
 simp only at hl2 ⊢ HC2
 have hsz:(⟨r2.toArray⟩:ByteArray).size ≤ 4611686018427387904:=by rw [ba_len]; have h9:=Lib.size_eq s; omega
 have HB:=Lib.hid fun w1 (x:Ext w w1)=>base_wide ⟨r2.toArray⟩ w1 hsz (g.ext x)
 have HG:=Lib.hid g
 generalize baseS ⟨r2.toArray⟩=b at *
 obtain ⟨⟨ba,bb,bn,bo,be⟩,ok⟩:=b
 simp only [tyA] at HB ⊢
 have HT:=Lib.hid fun w1 (x:Ext w w1)=>isType_any ba bb bn op er w1 (HG.out.ext x)
 generalize hit:isTypeS ⟨ba,bb,bn,op,er⟩=it at *
 clear hit g hl1 hl2 hsz hs
 have B0:Hid (Blk (w.alloc (.cells zTy 30)) w.heap.size 30 zTy):=Blk.new w _ zTy
 cases ok
 ·rw [if_neg (by simp)]
  go_enter Tryz.func12,Tryz.ntmps12
  go_wp2_with (first
   | (go_at_call 30; (with_reducible show Calls _ _ #[_,.string ⟨#[33]⟩] _ _); refine (HC.out _).mono ?_; rintro r w1 ⟨rfl,rfl⟩)
   | (go_at_call 30; (with_reducible show Calls _ _ #[_,.string ⟨#[63]⟩] _ _); refine (HC2.out _).mono ?_; rintro r w1 ⟨rfl,rfl⟩)
   | (go_at_call 31; refine (HB.out _ exA).mono ?_; rintro r w2 ⟨rfl,x2⟩; have y2:=x2.facts; have z2:=x2.z0; have x4:=x2.alloc (.cells #[.int .i64 ba,.int .i64 bb,.string bn,.bool op,.bool er] 30))
   | ((with_reducible show wpList _ _ _ (Oper.mk none (.store 30 (.tmp 2) _) _ _ _ _ :: _) _ _); refine wpList_store_row rfl _ _ _ rfl w.heap.size rfl _ zTy (tyA tZ) (B0.out.ext x4) rfl rfl (tyA_one _) HZ.out ?_))
  exact bodyPost_ret (results_row_tmp rfl _ _ w.heap.size _ (tyA tZ) (0,0) _ rfl ((B0.out.ext x4).row _) Tryz.underlying30 rfl HZ.out _ rfl) rfl ⟨rfl,(((Ext.refl w).alloc _).trans x4).setRow (Nat.le_refl _) _⟩
 cases it
 ·rw [if_neg (by simp)]
  go_enter Tryz.func12,Tryz.ntmps12
  go_wp2_with (first
   | (go_at_call 30; (with_reducible show Calls _ _ #[_,.string ⟨#[33]⟩] _ _); refine (HC.out _).mono ?_; rintro r w1 ⟨rfl,rfl⟩)
   | (go_at_call 30; (with_reducible show Calls _ _ #[_,.string ⟨#[63]⟩] _ _); refine (HC2.out _).mono ?_; rintro r w1 ⟨rfl,rfl⟩)
   | (go_at_call 31; refine (HB.out _ exA).mono ?_; rintro r w2 ⟨rfl,x2⟩; have y2:=x2.facts; have z2:=x2.z0; have x4:=x2.alloc (.cells #[.int .i64 ba,.int .i64 bb,.string bn,.bool op,.bool er] 30))
   | (go_at_call 32; refine (HT.out _ (((Ext.refl w).alloc _).trans (x2.alloc _))).mono ?_; rintro r w3 ⟨rfl,x3⟩; have x4:=(x2.alloc _).trans x3; have B3:=Lib.hid ((Blk.new w2 30 #[.int .i64 ba,.int .i64 bb,.string bn,.bool op,.bool er]).ext x3); have q0:w3.cell? ⟨w2.heap.size,0,none⟩=some (.int .i64 ba):=B3.out.cell 0; have q1:w3.cell? ⟨w2.heap.size,1,none⟩=some (.int .i64 bb):=B3.out.cell 1; have q2:w3.cell? ⟨w2.heap.size,2,none⟩=some (.string bn):=B3.out.cell 2; have q3:w3.cell? ⟨w2.heap.size,3,none⟩=some (.bool op):=B3.out.cell 3; have q4:w3.cell? ⟨w2.heap.size,4,none⟩=some (.bool er):=B3.out.cell 4)
   | ((with_reducible show wpList _ _ _ (Oper.mk none (.store 30 (.tmp 2) _) _ _ _ _ :: _) _ _); refine wpList_store_row rfl _ _ _ rfl w.heap.size rfl _ zTy (tyA tZ) (B0.out.ext x4) rfl rfl (tyA_one _) HZ.out ?_))
  exact bodyPost_ret (results_row_tmp rfl _ _ w.heap.size _ (tyA tZ) (0,0) _ rfl ((B0.out.ext x4).row _) Tryz.underlying30 rfl HZ.out _ rfl) rfl ⟨rfl,(((Ext.refl w).alloc _).trans x4).setRow (Nat.le_refl _) _⟩
 ·rw [if_pos (by simp)]
  go_enter Tryz.func12,Tryz.ntmps12
  go_wp2_with (first
   | (go_at_call 30; (with_reducible show Calls _ _ #[_,.string ⟨#[33]⟩] _ _); refine (HC.out _).mono ?_; rintro r w1 ⟨rfl,rfl⟩)
   | (go_at_call 30; (with_reducible show Calls _ _ #[_,.string ⟨#[63]⟩] _ _); refine (HC2.out _).mono ?_; rintro r w1 ⟨rfl,rfl⟩)
   | (go_at_call 31; refine (HB.out _ exA).mono ?_; rintro r w2 ⟨rfl,x2⟩; have y2:=x2.facts; have z2:=x2.z0; have x4:=x2.alloc (.cells #[.int .i64 ba,.int .i64 bb,.string bn,.bool op,.bool er] 30))
   | (go_at_call 32; refine (HT.out _ (((Ext.refl w).alloc _).trans (x2.alloc _))).mono ?_; rintro r w3 ⟨rfl,x3⟩; have x4:=(x2.alloc _).trans x3; have B3:=Lib.hid ((Blk.new w2 30 #[.int .i64 ba,.int .i64 bb,.string bn,.bool op,.bool er]).ext x3); have q0:w3.cell? ⟨w2.heap.size,0,none⟩=some (.int .i64 ba):=B3.out.cell 0; have q1:w3.cell? ⟨w2.heap.size,1,none⟩=some (.int .i64 bb):=B3.out.cell 1; have q2:w3.cell? ⟨w2.heap.size,2,none⟩=some (.string bn):=B3.out.cell 2; have q3:w3.cell? ⟨w2.heap.size,3,none⟩=some (.bool op):=B3.out.cell 3; have q4:w3.cell? ⟨w2.heap.size,4,none⟩=some (.bool er):=B3.out.cell 4)
   | ((with_reducible show wpList _ _ _ (Oper.mk none (.store 30 (.tmp 2) _) _ _ _ _ :: _) _ _); refine wpList_store_row rfl _ _ _ rfl w.heap.size rfl _ zTy (tyA ⟨ba,bb,bn,op,er⟩) (B0.out.ext x4) rfl rfl (tyA_one _) HZ.out ?_))
  exact bodyPost_ret (results_row_tmp rfl _ _ w.heap.size _ (tyA ⟨ba,bb,bn,op,er⟩) (0,0) _ rfl ((B0.out.ext x4).row _) Tryz.underlying30 rfl HZ.out _ rfl) rfl ⟨rfl,(((Ext.refl w).alloc _).trans x4).setRow (Nat.le_refl _) _⟩
theorem textE_any (t:Ty) (w:World) (g:Laid w):Calls Tryz.prog 10 #[.agg #[.int .i64 t.base,.int .i64 t.bits,.string t.name,.bool t.opt,.bool t.err]] w fun e w'=>e=.returned (.tuple #[.string ⟨(txE t).1.toArray⟩,.int .i64 (txE t).2])∧Ext w w':=by
 unfold txE
 by_cases h:isTypeS t=true
 ·rw [if_pos h]
  exact typeText_any t w g h
 ·rw [if_neg h]
  have HV:Hid (∀ w1,Ext w w1 → Calls Tryz.prog 14 #[.agg #[.int .i64 t.base,.int .i64 t.bits,.string t.name,.bool t.opt,.bool t.err]] w1 fun r w'=>r=.returned (.int .i64 1)∧Ext w1 w'):=fun w1 x=>by
   have h2:=validateType_any t.base t.bits t.name t.opt t.err w1 (g.ext x)
   rwa [if_neg (show ¬ isTypeS ⟨t.base,t.bits,t.name,t.opt,t.err⟩=true from h)] at h2
  clear h
  go_enter Tryz.func10,Tryz.ntmps10
  go_wp2_with (first
   | (go_at_call 14; refine (HV.out _ exA).mono ?_; rintro r w1 ⟨rfl,x1⟩))
  go_ret2
  exact ⟨rfl,exA⟩
theorem rtextE_any (t:Ty) (w:World):Calls Tryz.prog 11 #[.agg #[.int .i64 t.base,.int .i64 t.bits,.string t.name,.bool t.opt,.bool t.err]] w fun e w'=>e=.returned (.tuple #[.string ⟨(txE t).1.toArray⟩,.int .i64 (txE t).2])∧Ext w w':=by
 unfold txE
 by_cases h:isTypeS t=true
 ·rw [if_pos h]
  exact rtypeText_any t w h
 ·rw [if_neg h]
  have HV:Hid (∀ w1,Ext w w1 → Calls Tryz.prog 15 #[.agg #[.int .i64 t.base,.int .i64 t.bits,.string t.name,.bool t.opt,.bool t.err]] w1 fun r w'=>r=.returned (.int .i64 1)∧Ext w1 w'):=fun w1 x=>by
   have h2:=refValidateType_any t.base t.bits t.name t.opt t.err w1
   rwa [if_neg (show ¬ isTypeS ⟨t.base,t.bits,t.name,t.opt,t.err⟩=true from h)] at h2
  clear h
  go_enter Tryz.func11,Tryz.ntmps11
  go_wp2_with (first
   | (go_at_call 15; refine (HV.out _ exA).mono ?_; rintro r w1 ⟨rfl,x1⟩))
  go_ret2
  exact ⟨rfl,exA⟩
theorem rbased_any (s:ByteArray) (w:World):Calls Tryz.prog 33 #[.string s] w fun e w'=>e=.returned (.tuple #[.agg (tyA (baseS s).1),.bool (baseS s).2])∧Ext w w':=by
 have HZ:Hid ((Tryz.prog.info? 30).map (·.size)=some 5):=by unfold Hid; kernel_rfl
 by_cases h1:s=⟨#[118,111,105,100]⟩
 ·subst h1
  go_enter Tryz.func33,Tryz.ntmps33
  go_wp2_with fail
  exact bodyPost_ret (results_row_tmp rfl _ _ w.heap.size _ zTy (0,0) _ rfl (Blk.new w _ _) Tryz.underlying30 rfl HZ.out _ rfl) rfl ⟨rfl,exA⟩
 by_cases h2:s=⟨#[98,111,111,108]⟩
 ·subst h2
  clear h1
  go_enter Tryz.func33,Tryz.ntmps33
  go_wp2_with fail
  exact bodyPost_ret (results_row_tmp rfl _ _ w.heap.size _ (tyA tBo) (0,0) _ rfl (Blk.new w _ _) Tryz.underlying30 rfl HZ.out _ rfl) rfl ⟨rfl,exA⟩
 by_cases h3:s=⟨#[116,121,112,101]⟩
 ·subst h3
  clear h1 h2
  go_enter Tryz.func33,Tryz.ntmps33
  go_wp2_with fail
  exact bodyPost_ret (results_row_tmp rfl _ _ w.heap.size _ (tyA ⟨4,0,⟨#[]⟩,false,false⟩) (0,0) _ rfl (Blk.new w _ _) Tryz.underlying30 rfl HZ.out _ rfl) rfl ⟨rfl,exA⟩
 have e1:=bs_nl [118,111,105,100] h1
 have e2:=bs_nl [98,111,111,108] h2
 have e3:=bs_nl [116,121,112,101] h3
 have HB:Hid (baseS s=match readS s.data.toList with
  | some (sg,m)=>(⟨if sg then 3 else 2,m,⟨#[]⟩,false,false⟩,true)
  | none=>(⟨5,0,s,false,false⟩,isNameS s)):=by unfold Hid baseS; rw [if_neg h1,if_neg h2,if_neg h3]; rfl
 obtain ⟨rd,hrd⟩:∃ rd,readS s.data.toList=rd:=⟨_,rfl⟩
 have HR:=Lib.hid hrd
 rw [HB.out,hrd]
 clear hrd h1 h2 h3
 have HN:Hid (∀ w1,Calls Tryz.prog 40 #[.string s] w1 fun e w'=>e=.returned (.tuple #[.agg #[.bool (readE s.data.toList).1,.int .i64 (readE s.data.toList).2.1],.int .i64 (readE s.data.toList).2.2])∧Ext w1 w'):=fun w1=>by
  have h9:=refRead_any s w1
  rwa [← read_law] at h9
 have B0:Hid (Blk (w.alloc (.cells zTy 30)) w.heap.size 30 zTy):=Blk.new w _ zTy
 cases rd with
 | none =>
  have hE:=readE_none HR.out
  go_enter Tryz.func33,Tryz.ntmps33
  go_wp2_with (first
   | (go_at_call 40; refine (HN.out _).mono ?_; rw [hE]; rintro r w2 ⟨rfl,x2⟩; have y2:=x2.facts; have z2:=x2.z0)
   | (go_at_call 17; refine (refIsName_any s _).mono ?_; rintro r w3 ⟨rfl,x3⟩; have x4:=(x2.alloc _).trans x3)
   | ((with_reducible show wpList _ _ _ (Oper.mk none (.store 30 (.tmp 2) _) _ _ _ _ :: _) _ _); refine wpList_store_row rfl _ _ _ rfl w.heap.size rfl _ zTy (tyA ⟨5,0,s,false,false⟩) (B0.out.ext x4) rfl rfl (tyA_one _) HZ.out ?_))
  exact bodyPost_ret (results_row_tmp rfl _ _ w.heap.size _ (tyA ⟨5,0,s,false,false⟩) (0,0) _ rfl ((B0.out.ext x4).row _) Tryz.underlying30 rfl HZ.out _ rfl) rfl ⟨rfl,(((Ext.refl w).alloc _).trans x4).setRow (Nat.le_refl _) _⟩
 | some r =>
  obtain ⟨sg,m⟩:=r
  have hE:=readE_some HR.out
  cases sg <;>
  ·go_enter Tryz.func33,Tryz.ntmps33
   go_wp2_with (first
    | (go_at_call 40; refine (HN.out _).mono ?_; rw [hE]; rintro r w2 ⟨rfl,x2⟩; have y2:=x2.facts; have z2:=x2.z0; have x4:=fun o=>x2.alloc o)
    | ((with_reducible show wpList _ _ _ (Oper.mk none (.store 30 (.tmp 2) _) _ _ _ _ :: _) _ _); refine wpList_store_row rfl _ _ _ rfl w.heap.size rfl _ zTy (tyA ⟨_,m,⟨#[]⟩,false,false⟩) (B0.out.ext (x4 _)) rfl rfl (tyA_one _) HZ.out ?_))
   exact bodyPost_ret (results_row_tmp rfl _ _ w.heap.size _ (tyA ⟨_,m,⟨#[]⟩,false,false⟩) (0,0) _ rfl ((B0.out.ext (x4 _)).row _) Tryz.underlying30 rfl HZ.out _ rfl) rfl ⟨rfl,(((Ext.refl w).alloc _).trans (x4 _)).setRow (Nat.le_refl _) _⟩
end Go.Proofs.YtobfbfbjccmbiaaGreatDoor.c
