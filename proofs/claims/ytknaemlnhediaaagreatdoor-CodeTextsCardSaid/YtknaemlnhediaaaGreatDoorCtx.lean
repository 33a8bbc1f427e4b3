/- Contract of code.Text. The tables strings.asciiSpace and of the powers hold what their text lays; lengths are bounded. -/
import Derived.Test.YtknaemlnhediaaaGreatDoorRtx
import Derived.Test.YtknaemlnhediaaaGreatDoorCode
import Derived.Test.YtknaemlnhediaaaGreatDoorFlowW
import Derived.Shelf.Strings.BuilderK
import Derived.Lib.Join
namespace Go.Proofs.YtknaemlnhediaaaGreatDoor.c
open Go.RowKit Go.Sort
set_option linter.unusedVariables false
set_option maxRecDepth 100000
set_option maxHeartbeats 6400000
set_option linter.unusedSimpArgs false
theorem bld_ext {T e:TypeId} {B b:Nat} {bs:List Value} {w w':World} (h:Lib.IsBuilderF T e B b bs w) (x:Ext w w'):Lib.IsBuilderF T e B b bs w':=by
 have key:∀ p,Lib.BuilderAtF T e B b p bs w → Lib.BuilderAtF T e B b p bs w':=by
  rintro p ⟨hB,v,hb,hown,hne⟩
  refine ⟨hB,v,(x.out.block b (Lib.BuilderAtF.lt (T:=T) (e:=e) (B:=B) (p:=p) (bs:=bs) ⟨hB,v,hb,hown,hne⟩)).trans hb,hown.kept (row:=none) ⟨x.out.os,x.out.tape,x.out.output,x.out.size,fun k hk _=>x.out.block k hk⟩ ?_,hne⟩
  cases v.ownBlock with
  | none=>exact .inl rfl
  | some k=>exact .inr (by simp)
 exact h.elim (fun a=>.inl (key _ a)) (fun a=>.inr (key _ a))
theorem writeK (B b:Nat) (bs:List Value) (s:ByteArray) (w:World) (h:Lib.IsBuilderF 98 5 B b bs w) (hlen:bs.length + s.size ≤ 140737488355328) (hBw:B ≤ w.heap.size) :
  Calls Tryz.prog 61 #[.pointer (some ⟨b,0,none⟩),.string s] w fun e w'=>e=.returned (.tuple #[.int .i64 s.size,.nilIface])∧(Lib.BuilderAtF 98 5 B b (.pointer (some ⟨b,0,none⟩)) (bs ++ Lib.strCells s) w'∧Below B w w'∧Lib.OthersKept 5 (some b) w w') :=
 Any.Builder_WriteString_k { Tryz.lays156 with } Tryz.Builder_Extra_156 B b bs s w h hlen hBw
theorem stringK (B b:Nat) (l:List UInt8) (w:World) (h:Lib.IsBuilderF 98 5 B b (Lib.byteCells l) w) (hBw:B ≤ w.heap.size) :
  Calls Tryz.prog 65 #[.pointer (some ⟨b,0,none⟩)] w fun e w'=>e=.returned (.string ⟨l.toArray⟩)∧Below B w w' :=
 (Any.Builder_String_any_k Tryz.lays169 Tryz.Builder_Extra_169 B b l w h hBw).mono fun _ _ h=>⟨h.1,h.2.2.1⟩
structure BSt (w0:World) (bs:List UInt8) (w:World):Prop where
 ext:Ext w0 w
 bld:Lib.IsBuilderF 98 5 w0.heap.size w0.heap.size (Lib.byteCells bs) w
theorem BSt.start (w0:World):BSt w0 [] (w0.alloc (.cells #[.pointer none,.slice none 0 0] 98)) :=
 ⟨(Ext.refl _).alloc _,Lib.IsBuilderF.of (Lib.fresh_isBuilder _ _ w0)⟩
theorem BSt.ext' {w0 w w':World} {bs:List UInt8} (s:BSt w0 bs w) (x:Ext w w'):BSt w0 bs w':=⟨s.ext.trans x,bld_ext s.bld x⟩
theorem BSt.write {w0 w:World} {bs:List UInt8} (st:BSt w0 bs w) (s:ByteArray) (hlen:bs.length + s.size ≤ 140737488355328) :
  Calls Tryz.prog 61 #[.pointer (some ⟨w0.heap.size,0,none⟩),.string s] w fun e w'=>e=.returned (.tuple #[.int .i64 s.size,.nilIface])∧BSt w0 (bs ++ s.data.toList) w'∧Lib.OthersKept 5 (some w0.heap.size) w w' :=
 (writeK _ _ _ s w st.bld (by unfold Lib.byteCells; rw [List.length_map]; exact hlen) st.ext.size).mono fun e w' h =>
  ⟨h.1,⟨⟨st.ext.out.trans h.2.2.1⟩,.inr (by have h2:=h.2.1; rwa [show Lib.byteCells bs ++ Lib.strCells s=Lib.byteCells (bs ++ s.data.toList) by unfold Lib.byteCells Lib.strCells; rw [List.map_append]] at h2)⟩,h.2.2.2⟩
theorem kept_blk {w w':World} {b g:Nat} {t:TypeId} {cs:Array Value} (h:Blk w g t cs) (k:Lib.OthersKept 5 (some b) w w') (hg:g ≠ b) (ht:t ≠ 5):Blk w' g t cs :=
 k g _ h (fun e=>hg (Option.some.inj e)) (fun c fz e=>by cases e; exact ht rfl)
theorem lit1:(⟨#[32]⟩:ByteArray).size=1:=rfl
theorem lit2:(⟨#[58,10]⟩:ByteArray).size=2:=rfl
theorem lit3:(⟨#[10]⟩:ByteArray).size=1:=rfl
theorem enters_ctypeText:Enters 64 := Enters.of Tryz.func64 (by kernel_rfl) (by kernel_rfl)
def Small5 (a b c d e:ByteArray):Prop:=a.size ≤ 21∧b.size ≤ 21∧c.size ≤ 21∧d.size ≤ 10∧e.size ≤ 8
def join5L (a b c d e:ByteArray):List UInt8:=a.data.toList ++ (32 :: (b.data.toList ++ (32 :: (c.data.toList ++ (32 :: (d.data.toList ++ (32 :: e.data.toList)))))))
theorem join_size {a b c d e J:ByteArray} (h:J.data.toList=join5L a b c d e) (z:Small5 a b c d e):J.size ≤ 90:=by
 obtain ⟨z0,z1,z2,z3,z4⟩:=z
 rw [Lib.size_eq,h]
 simp only [join5L,List.length_append,List.length_cons,← Lib.size_eq]
 omega
theorem join5 (a b c d e:ByteArray) (bk:Nat) (w:World) (h:Blk w bk 9 #[.string a,.string b,.string c,.string d,.string e]) (z:Small5 a b c d e) :
  Calls Tryz.prog 63 #[.slice (some ⟨bk,0,none⟩) 5 5,.string ⟨#[32]⟩] w fun r w'=>∃ J:ByteArray,r=.returned (.string J)∧J.data.toList=join5L a b c d e∧Ext w w':=by
 have hj:Lib.join ([a,b,c,d,e].map (·.data.toList)) (⟨#[32]⟩:ByteArray).data.toList=join5L a b c d e:=by
  simp [Lib.join_cons,Lib.joinTail,join5L]
 have hz:(join5L a b c d e).length ≤ 90:=by
  have:=join_size (J:=⟨(join5L a b c d e).toArray⟩) (by simp) z
  rwa [ba_size] at this
 refine (Tryz.strings_Join bk 0 5 [a,b,c,d,e] ⟨#[32]⟩ w (fun j x hx=>?_) h.lt (by simp) (by simp) (by rw [hj]; omega)).mono fun r w' hr=>⟨_,hr.1,by rw [hj],⟨hr.2⟩⟩
 rw [Nat.zero_add,h.cell]
 match j,hx with
 | 0,hx=>cases hx; rfl
 | 1,hx=>cases hx; rfl
 | 2,hx=>cases hx; rfl
 | 3,hx=>cases hx; rfl
 | 4,hx=>cases hx; rfl
 | j + 5,hx=>simp at hx
theorem cText_any (A:Option Addr) (cap:Nat) (l:List Fc) {len:Nat} (w:World) (g:Laid w) (gp:LaidP w) (hlen:len=l.length) (hA:FcAt w A l) (hl:l.length ≤ 9223372036854775806) (hc:l.length ≤ 48 → countS l ≤ 9223372036854775806) (hfl:∀ f,f ∈ l → f.code.length ≤ 9223372036854775806) :
  Calls Tryz.prog 14 #[.slice A len cap] w fun e w'=>e=.returned (.tuple #[.string ⟨(textS l).toArray⟩,.int .i64 (validS l)])∧Ext w w':=by
 have HV:Hid (Calls Tryz.prog 59 #[.slice A len cap] w fun e w'=>e=.returned (.int .i64 (validS l))∧Ext w w'):=by rw [hlen]; exact cValidate_any A cap l w g hA hl hc hfl
 have HA:=Lib.hid hA
 have HLn:=Lib.hid hlen
 have GP:=Lib.hid gp
 have GL:=Lib.hid g
 clear hA hlen gp g hl hc hfl
 by_cases hv:validS l=0
 ·have HT:Hid (textS l=codeT l):=by unfold Hid textS; rw [if_pos hv]
  have HTX:Hid (∀ f,f ∈ l → TxtF f):=fun f hf=>valid_txt hv hf
  have HTL:Hid (∀ i k,i < l.length → k ≤ (l.getD i default).code.length → (codeT (l.take i) ++ funL (l.getD i default) k).length ≤ 400000):=fun i k hi hk=>text_len hv hi hk
  have h48:len ≤ 48:=by have:=(valid_parts hv).1; have:=HLn.out; omega
  have HCC:Hid (∀ f,f ∈ l → f.code.length ≤ 2000):=fun f hf=>by have:=len_count hf; have:=(valid_parts hv).2.1; omega
  rw [hv] at HV ⊢
  rw [HT.out]
  clear hv
  go_enter Tryz.func14,Tryz.ntmps14
  go_wp2_with (first | (go_at_call 59; refine (HV.out).mono ?_; rintro r w1 ⟨rfl,x1⟩; have X1:=Lib.hid x1; have BS0:=Lib.hid (BSt.start w1); clear x1))
  go_loopw [20] (fun i wr=>∃ (k:Nat),k ≤ len∧i=.int .i64 k∧BSt w1 (codeT (l.take k)) wr) (fun i _=>len - (intOf i).toNat)
  case atStart=>exact ⟨0,Nat.zero_le _,rfl,BS0.out⟩
  case round =>
   obtain ⟨k,hk,rfl,hs⟩:=hrel
   have BS:=Lib.hid hs
   have HX:Hid (Ext w wr):=X1.out.trans hs.ext
   have hzw:=hs.ext.size
   clear hs BS0
   by_cases hlt:k < len
   ·have hkl:k < l.length:=by have:=HLn.out; omega
    obtain ⟨f,hf⟩:∃ f,f=l.getD k default:=⟨_,rfl⟩
    have hfm:f ∈ l:=by rw [hf]; exact getD_mem hkl
    have TF:Hid (TxtF f):=HTX.out f hfm
    have HTF:Hid (∀ j,j ≤ f.code.length → (codeT (l.take k) ++ funL f j).length ≤ 400000):=by rw [hf]; exact fun j hj=>HTL.out k j hkl hj
    have HCT:Hid (codeT (l.take (k + 1))=codeT (l.take k) ++ funL f f.code.length):=codeT_take l hkl hf
    have hcl:f.code.length ≤ 2000:=HCC.out f hfm
    obtain ⟨b,off,rfl,hb,c0,c1,c2,c3,c4,c5,c6,c7,c8,hcd⟩:=(HA.out.ext HX.out).at_ (k:=k) hkl hf
    have HCD:=Lib.hid (HA.out.sub f hfm)
    obtain ⟨P1,P2,T1,hS⟩:=headS TF.out GP.out
    have HHS:=Lib.hid hS
    have HTT:Hid (∀ w1,Ext w w1 → Calls Tryz.prog 60 #[.agg #[.int .i64 f.ty.base,.int .i64 f.ty.bits,.string f.ty.name,.bool f.ty.opt,.bool f.ty.err]] w1 fun e w'=>e=.returned (.tuple #[.string T1,.int .i64 0])∧Ext w1 w'):=fun w1 x=>by
     have h:=typeText_any f.ty w1 (GL.out.ext x) TF.out.ty
     rwa [← hS.t,show (⟨T1.data.toList.toArray⟩:ByteArray)=T1 from bytes_inj (by simp)] at h
    obtain ⟨z0,z1,z2,z3⟩:=hS.z
    have zS:(codeT (l.take k)).length ≤ 400000:=by
     have h1:=HTF.out 0 (Nat.zero_le _)
     rw [List.length_append] at h1
     omega
    clear hf hcd hS hfm
    go_wp2_with (first
     | (go_at_call 60
        refine (HTT.out _ (HX.out.alloc _)).mono ?_
        rintro r w2 ⟨rfl,x2⟩
        have BX2:Hid (Blk w2 wr.heap.size 62 #[.string f.name,.int .i64 f.params,.int .i64 f.places,.int .i64 f.ty.base,.int .i64 f.ty.bits,.string f.ty.name,.bool f.ty.opt,.bool f.ty.err,.slice f.A f.code.length f.cap]):=(Blk.new wr _ _).ext x2
        have X2:Hid (Ext w w2):=HX.out.trans exL
        have BS2:Hid (BSt w1 (codeT (l.take k)) w2):=BS.out.ext' exL
        clear x2))
    clear c0 c1 c2 c3 c4 c5 c6 c7 c8
    have hgx:wr.heap.size ≠ w1.heap.size:=by
     have h1:=BS.out.bld
     have:w1.heap.size < wr.heap.size:=by
      rcases h1 with h1 | h1
      ·exact h1.lt
      ·exact h1.lt
     omega
    generalize wr.heap.size=gx at BX2 hgx ⊢
    have HD:Hid (∀ (l':Array Bool) (b':Act) (w':World),Still (fun w'=>Ext w2 w') l' b' w' → w'.cell? ⟨gx,0,none⟩=some (.string f.name)∧w'.cell? ⟨gx,1,none⟩=some (.int .i64 f.params)∧w'.cell? ⟨gx,2,none⟩=some (.int .i64 f.places)):=fun l' b' w' xx=>by
     have h:=BX2.out.ext (show Ext w2 w' from xx)
     exact ⟨h.cell 0,h.cell 1,h.cell 2⟩
    have HC1:Hid (∀ (l':Array Bool) (b':Act) (w':World),l'.getD 16 false=false → Still (fun w'=>Ext w2 w') l' b' w' → Calls Tryz.prog 62 #[.int .i64 f.params] w' fun e w''=>e=.returned (.string P1)∧Still (fun w'=>Ext w2 w') l' b' w''):=fun l' b' w' _ xx=>(HHS.out.i1 w' (X2.out.trans xx)).mono fun e w'' h=>⟨h.1,Ext.trans xx h.2⟩
    have HC2:Hid (∀ (l':Array Bool) (b':Act) (w':World),l'.getD 16 false=false → Still (fun w'=>Ext w2 w') l' b' w' → Calls Tryz.prog 62 #[.int .i64 f.places] w' fun e w''=>e=.returned (.string P2)∧Still (fun w'=>Ext w2 w') l' b' w''):=fun l' b' w' _ xx=>(HHS.out.i2 w' (X2.out.trans xx)).mono fun e w'' h=>⟨h.1,Ext.trans xx h.2⟩
    have HST:∀ (i k:Nat) (v9:Value) (l':Array Bool) (b':Act) (w':World),Still (fun w'=>Ext w2 w') (l'.setIfInBounds i true) (b'.put (some k) v9) w' ↔ Still (fun w'=>Ext w2 w') l' b' w':=fun _ _ _ _ _ _=>Iff.rfl
    refine flowV_begin 16 (Still (fun w'=>Ext w2 w')) #[false,false,false,false,false,false,false,false,false,false,false,false,false,false,false,false,false] rfl (by kernel_rfl) (fun _ _ _ _ _ h=>h) ((Ext.refl _).drew) (fun HQ=>?_)
    (refine tvp 0 30 rfl HQ (HST 0 30 _) ?_; try simp only [putL,List.set])
    (refine tvd 1 31 rfl HQ (HST 1 31 _) ?_; try simp only [putL,List.set])
    (refine flowV_take (i:=2) (t:=32) (v:=?_) (m:=20) (oi:=⟨some 32,_,_,_,_,_⟩) rfl (by decide) (by kernel_rfl) (by kernel_rfl) rfl rfl (by kernel_rfl) (by kernel_rfl) (by kernel_rfl) HQ (HST 2 32 _) (Or.inl ⟨by rfl,fun l b' w' hlk hF=>?_⟩) ?_; rotate_left; (focus (go_simp; first | with_reducible rfl | (rw [if_neg (by omega)]))); try simp only [putL,List.set])
    (refine tvp 3 33 rfl HQ (HST 3 33 _) ?_; try simp only [putL,List.set])
    (refine tvd 4 34 rfl HQ (HST 4 34 _) ?_; try simp only [putL,List.set])
    (refine flowV_take (i:=5) (t:=35) (m:=20) (oi:=⟨some 35,_,_,_,_,_⟩) rfl (by decide) (by kernel_rfl) (by kernel_rfl) rfl rfl (by kernel_rfl) (by kernel_rfl) (by kernel_rfl) HQ (HST 5 35 _) (Or.inr (Or.inl ⟨by rfl,_,_,fun l b' w' hlk hF=>?_,(HC1.out)⟩)) ?_; (focus (have hq:=HD.out _ _ _ hF; go_simp; try simp only [enters_itoa _ _])); try simp only [putL,List.set])
    (refine flowV_take (i:=6) (t:=36) (v:=?_) (m:=20) (oi:=⟨some 36,_,_,_,_,_⟩) rfl (by decide) (by kernel_rfl) (by kernel_rfl) rfl rfl (by kernel_rfl) (by kernel_rfl) (by kernel_rfl) HQ (HST 6 36 _) (Or.inl ⟨by rfl,fun l b' w' hlk hF=>?_⟩) ?_; rotate_left; (focus (go_simp; first | with_reducible rfl | (rw [if_neg (by omega)]))); try simp only [putL,List.set])
    (refine flowV_take (i:=7) (t:=37) (v:=?_) (m:=20) (oi:=⟨some 37,_,_,_,_,_⟩) rfl (by decide) (by kernel_rfl) (by kernel_rfl) rfl rfl (by kernel_rfl) (by kernel_rfl) (by kernel_rfl) HQ (HST 7 37 _) (Or.inl ⟨by rfl,fun l b' w' hlk hF=>?_⟩) ?_; rotate_left; (focus (go_simp; first | with_reducible rfl | (rw [if_neg (by omega)]))); try simp only [putL,List.set])
    (refine tvp 8 38 rfl HQ (HST 8 38 _) ?_; try simp only [putL,List.set])
    (refine tvd 9 39 rfl HQ (HST 9 39 _) ?_; try simp only [putL,List.set])
    (refine flowV_take (i:=10) (t:=40) (m:=20) (oi:=⟨some 40,_,_,_,_,_⟩) rfl (by decide) (by kernel_rfl) (by kernel_rfl) rfl rfl (by kernel_rfl) (by kernel_rfl) (by kernel_rfl) HQ (HST 10 40 _) (Or.inr (Or.inl ⟨by rfl,_,_,fun l b' w' hlk hF=>?_,(HC2.out)⟩)) ?_; (focus (have hq:=HD.out _ _ _ hF; go_simp; try simp only [enters_itoa _ _])); try simp only [putL,List.set])
    (refine flowV_take (i:=11) (t:=41) (v:=?_) (m:=20) (oi:=⟨some 41,_,_,_,_,_⟩) rfl (by decide) (by kernel_rfl) (by kernel_rfl) rfl rfl (by kernel_rfl) (by kernel_rfl) (by kernel_rfl) HQ (HST 11 41 _) (Or.inl ⟨by rfl,fun l b' w' hlk hF=>?_⟩) ?_; rotate_left; (focus (go_simp; first | with_reducible rfl | (rw [if_neg (by omega)]))); try simp only [putL,List.set])
    (refine flowV_take (i:=12) (t:=42) (v:=?_) (m:=20) (oi:=⟨some 42,_,_,_,_,_⟩) rfl (by decide) (by kernel_rfl) (by kernel_rfl) rfl rfl (by kernel_rfl) (by kernel_rfl) (by kernel_rfl) HQ (HST 12 42 _) (Or.inl ⟨by rfl,fun l b' w' hlk hF=>?_⟩) ?_; rotate_left; (focus (go_simp; first | with_reducible rfl | (rw [if_neg (by omega)]))); try simp only [putL,List.set])
    (refine tvp 13 43 rfl HQ (HST 13 43 _) ?_; try simp only [putL,List.set])
    (refine flowV_take (i:=14) (t:=44) (v:=?_) (m:=20) (oi:=⟨some 44,_,_,_,_,_⟩) rfl (by decide) (by kernel_rfl) (by kernel_rfl) rfl rfl (by kernel_rfl) (by kernel_rfl) (by kernel_rfl) HQ (HST 14 44 _) (Or.inl ⟨by rfl,fun l b' w' hlk hF=>?_⟩) ?_; rotate_left; (focus (go_simp; first | with_reducible rfl | (rw [if_neg (by omega)]))); try simp only [putL,List.set])
    (refine flowV_take (i:=15) (t:=45) (v:=?_) (m:=20) (oi:=⟨some 45,_,_,_,_,_⟩) rfl (by decide) (by kernel_rfl) (by kernel_rfl) rfl rfl (by kernel_rfl) (by kernel_rfl) (by kernel_rfl) HQ (HST 15 45 _) (Or.inl ⟨by rfl,fun l b' w' hlk hF=>?_⟩) ?_; rotate_left; (focus (go_simp; first | with_reducible rfl | (rw [if_neg (by omega)]))); try simp only [putL,List.set])
    refine flowV_leave (k:=16) (r:=[]) (L:=[⟨some 46,_,_,_,_,_⟩]) rfl (by kernel_rfl) (by kernel_rfl) rfl (by kernel_rfl) rfl (fun w' hF=>?_)
    have hF:Ext w2 w':=hF
    have BX7:=Lib.hid (BX2.out.ext hF)
    have BS7:=Lib.hid (BS2.out.ext' hF)
    have HS2:Hid (codeT (l.take k) ++ (f.name ++ ⟨#[32]⟩ ++ P1 ++ ⟨#[32]⟩ ++ P2 ++ ⟨#[32]⟩ ++ T1 ++ ⟨#[58,10]⟩).data.toList=codeT (l.take k) ++ funL f 0):=by unfold Hid; rw [funL_zero,HHS.out.head]; simp
    clear hF HD HC1 HC2 HST HQ HTT X2 BX2 HHS BS2
    obtain ⟨nc,hnc⟩:∃ nc,nc=f.code.length:=⟨_,rfl⟩
    have HNC:=Lib.hid hnc
    clear hnc
    go_wp2_with (first
     | (go_at_call 61
        refine (BS7.out.write _ (by simp only [cat_len,lit1,lit2]; omega)).mono ?_
        rintro r w9 ⟨rfl,bs9,k9⟩
        rw [HS2.out] at bs9
        have BS9:=Lib.hid bs9
        have BX9:=kept_blk BX7.out k9 hgx (by decide)
        have e8:=BX9.cell 8
        simp only [List.getElem?_toArray,List.getElem?_cons_zero,List.getElem?_cons_succ] at e8
        rw [← HNC.out] at e8
        have zb:=BX9.lt
        clear bs9 k9 BX9))
    rename World=>wo
    clear e8 zb
    go_loopw [50] (fun i wr=>∃ (j:Nat),j ≤ nc∧i=.int .i64 j∧BSt w1 (codeT (l.take k) ++ funL f j) wr) (fun i _=>nc - (intOf i).toNat)
    case atStart=>exact ⟨0,Nat.zero_le _,rfl,BS9.out⟩
    case round =>
     obtain ⟨j,hj,rfl,hz⟩:=hrel
     have QS:=Lib.hid hz
     have QX:Hid (Ext w wr):=X1.out.trans hz.ext
     clear hz BS9 BX7 BS7
     by_cases hlj:j < nc
     ·have hjl:j < f.code.length:=by have:=HNC.out; omega
      obtain ⟨x,hxx⟩:∃ x,x=f.code.getD j default:=⟨_,rfl⟩
      have TX:Hid (TxtX x):=TF.out.code x (by rw [hxx]; exact getD_mem hjl)
      obtain ⟨O1,O2,O3,T2,hL⟩:=lineS TX.out GP.out
      have HLS:=Lib.hid hL
      obtain ⟨T3,hT3⟩:∃ T3:ByteArray,T3=⟨(tyT x.ty).toArray⟩:=⟨_,rfl⟩
      have HTY:Hid (tyT x.ty=T3.data.toList):=by rw [hT3]; exact (ba_list _).symm
      have HTT2:Hid (∀ w1,Ext w w1 → Calls Tryz.prog 64 #[.agg #[.int .i64 x.ty.base,.int .i64 x.ty.bits,.string x.ty.name,.bool x.ty.opt,.bool x.ty.err]] w1 fun e w'=>e=.returned (.string T3)∧Ext w1 w'):=fun w1 xx=>by
       rw [hT3]
       exact ctypeText_any x.ty w1 (GL.out.ext xx) TX.out.ty
      have z9:T3.size ≤ 10:=by rw [hT3,ba_size]; exact tyT_len TX.out.ty
      obtain ⟨z0,z1,z2,z3,z4⟩:=hL.z
      have HLN:Hid (codeT (l.take k) ++ funL f (j + 1)=(codeT (l.take k) ++ funL f j) ++ (lineT x ++ [10])):=by unfold Hid; rw [funL_take f hjl hxx,List.append_assoc]
      obtain ⟨b3,o3,hA3,hb3,d0,d1,d2,d3,d4,d5,d6,d7,d8⟩:=(HCD.out.ext QX.out).at_ (k:=j) hjl hxx
      rw [hA3]
      have HNM0:Hid (nameT x.name=if emp x.name then [45] else x.name.data.toList):=rfl
      clear hxx hL hA3 hT3
      cases hb2:emp x.name
      ·have hem:x.name.toList.isEmpty=false:=hb2
       have HNM:Hid (nameT x.name=x.name.data.toList):=by have h:=HNM0.out; rw [hb2] at h; exact h
       have HZS:Hid (Small5 O1 O2 O3 T3 x.name):=⟨z0,z1,z2,z9,z4⟩
       clear hb2 HNM0
       go_wp2_with fail
       have BY:Hid (Blk (wr.alloc (.cells #[.int .i64 x.op,.int .i64 x.a,.int .i64 x.b,.int .i64 x.ty.base,.int .i64 x.ty.bits,.string x.ty.name,.bool x.ty.opt,.bool x.ty.err,.string x.name] 93)) wr.heap.size 93 #[.int .i64 x.op,.int .i64 x.a,.int .i64 x.b,.int .i64 x.ty.base,.int .i64 x.ty.bits,.string x.ty.name,.bool x.ty.opt,.bool x.ty.err,.string x.name]):=Blk.new wr _ _
       have X6:Hid (Ext w (wr.alloc (.cells #[.int .i64 x.op,.int .i64 x.a,.int .i64 x.b,.int .i64 x.ty.base,.int .i64 x.ty.bits,.string x.ty.name,.bool x.ty.opt,.bool x.ty.err,.string x.name] 93))):=QX.out.alloc _
       have BS6:Hid (BSt w1 (codeT (l.take k) ++ funL f j) (wr.alloc (.cells #[.int .i64 x.op,.int .i64 x.a,.int .i64 x.b,.int .i64 x.ty.base,.int .i64 x.ty.bits,.string x.ty.name,.bool x.ty.opt,.bool x.ty.err,.string x.name] 93))):=QS.out.ext' ((Ext.refl _).alloc _)
       generalize wr.alloc (.cells #[.int .i64 x.op,.int .i64 x.a,.int .i64 x.b,.int .i64 x.ty.base,.int .i64 x.ty.bits,.string x.ty.name,.bool x.ty.opt,.bool x.ty.err,.string x.name] 93)=w6 at BY X6 BS6 ⊢
       generalize wr.heap.size=gy at BY ⊢
       clear d0 d1 d2 d3 d4 d5 d6 d7 d8 hem
       have HD:Hid (∀ (l':Array Bool) (b':Act) (w':World),Still (fun w'=>Ext w6 w') l' b' w' → w'.cell? ⟨gy,0,none⟩=some (.int .i64 x.op)∧w'.cell? ⟨gy,1,none⟩=some (.int .i64 x.a)∧w'.cell? ⟨gy,2,none⟩=some (.int .i64 x.b)∧w'.cell? ⟨gy,3,none⟩=some (.int .i64 x.ty.base)∧w'.cell? ⟨gy,4,none⟩=some (.int .i64 x.ty.bits)∧w'.cell? ⟨gy,5,none⟩=some (.string x.ty.name)∧w'.cell? ⟨gy,6,none⟩=some (.bool x.ty.opt)∧w'.cell? ⟨gy,7,none⟩=some (.bool x.ty.err)):=fun l' b' w' xx=>by
        have h:=BY.out.ext (show Ext w6 w' from xx)
        exact ⟨h.cell 0,h.cell 1,h.cell 2,h.cell 3,h.cell 4,h.cell 5,h.cell 6,h.cell 7⟩
       have HC1:Hid (∀ (l':Array Bool) (b':Act) (w':World),l'.getD 13 false=false → Still (fun w'=>Ext w6 w') l' b' w' → Calls Tryz.prog 62 #[.int .i64 x.op] w' fun e w''=>e=.returned (.string O1)∧Still (fun w'=>Ext w6 w') l' b' w''):=fun l' b' w' _ xx=>(HLS.out.i1 w' (X6.out.trans xx)).mono fun e w'' h=>⟨h.1,Ext.trans xx h.2⟩
       have HC2:Hid (∀ (l':Array Bool) (b':Act) (w':World),l'.getD 13 false=false → Still (fun w'=>Ext w6 w') l' b' w' → Calls Tryz.prog 62 #[.int .i64 x.a] w' fun e w''=>e=.returned (.string O2)∧Still (fun w'=>Ext w6 w') l' b' w''):=fun l' b' w' _ xx=>(HLS.out.i2 w' (X6.out.trans xx)).mono fun e w'' h=>⟨h.1,Ext.trans xx h.2⟩
       have HC3:Hid (∀ (l':Array Bool) (b':Act) (w':World),l'.getD 13 false=false → Still (fun w'=>Ext w6 w') l' b' w' → Calls Tryz.prog 62 #[.int .i64 x.b] w' fun e w''=>e=.returned (.string O3)∧Still (fun w'=>Ext w6 w') l' b' w''):=fun l' b' w' _ xx=>(HLS.out.i3 w' (X6.out.trans xx)).mono fun e w'' h=>⟨h.1,Ext.trans xx h.2⟩
       have HC4:Hid (∀ (l':Array Bool) (b':Act) (w':World),l'.getD 13 false=false → Still (fun w'=>Ext w6 w') l' b' w' → Calls Tryz.prog 64 #[.agg #[.int .i64 x.ty.base,.int .i64 x.ty.bits,.string x.ty.name,.bool x.ty.opt,.bool x.ty.err]] w' fun e w''=>e=.returned (.string T3)∧Still (fun w'=>Ext w6 w') l' b' w''):=fun l' b' w' _ xx=>(HTT2.out w' (X6.out.trans xx)).mono fun e w'' h=>⟨h.1,Ext.trans xx h.2⟩
       have HST:∀ (i k:Nat) (v9:Value) (l':Array Bool) (b':Act) (w':World),Still (fun w'=>Ext w6 w') (l'.setIfInBounds i true) (b'.put (some k) v9) w' ↔ Still (fun w'=>Ext w6 w') l' b' w':=fun _ _ _ _ _ _=>Iff.rfl
       refine flowV_begin 13 (Still (fun w'=>Ext w6 w')) #[false,false,false,false,false,false,false,false,false,false,false,false,false,false,false,false,false] rfl (by kernel_rfl) (fun _ _ _ _ _ h=>h) ((Ext.refl _).drew) (fun HQ=>?_)
       (refine tvp 0 58 rfl HQ (HST 0 58 _) ?_; try simp only [putL,List.set])
       (refine tvd 1 59 rfl HQ (HST 1 59 _) ?_; try simp only [putL,List.set])
       (refine flowV_take (i:=2) (t:=60) (m:=20) (oi:=⟨some 60,_,_,_,_,_⟩) rfl (by decide) (by kernel_rfl) (by kernel_rfl) rfl rfl (by kernel_rfl) (by kernel_rfl) (by kernel_rfl) HQ (HST 2 60 _) (Or.inr (Or.inl ⟨by rfl,_,_,fun l b' w' hlk hF=>?_,(HC1.out)⟩)) ?_; (focus (have hq:=HD.out _ _ _ hF; go_simp; try simp only [enters_itoa _ _])); try simp only [putL,List.set])
       (refine tvp 3 61 rfl HQ (HST 3 61 _) ?_; try simp only [putL,List.set])
       (refine tvd 4 62 rfl HQ (HST 4 62 _) ?_; try simp only [putL,List.set])
       (refine flowV_take (i:=5) (t:=63) (m:=20) (oi:=⟨some 63,_,_,_,_,_⟩) rfl (by decide) (by kernel_rfl) (by kernel_rfl) rfl rfl (by kernel_rfl) (by kernel_rfl) (by kernel_rfl) HQ (HST 5 63 _) (Or.inr (Or.inl ⟨by rfl,_,_,fun l b' w' hlk hF=>?_,(HC2.out)⟩)) ?_; (focus (have hq:=HD.out _ _ _ hF; go_simp; try simp only [enters_itoa _ _])); try simp only [putL,List.set])
       (refine tvp 6 64 rfl HQ (HST 6 64 _) ?_; try simp only [putL,List.set])
       (refine tvd 7 65 rfl HQ (HST 7 65 _) ?_; try simp only [putL,List.set])
       (refine flowV_take (i:=8) (t:=66) (m:=20) (oi:=⟨some 66,_,_,_,_,_⟩) rfl (by decide) (by kernel_rfl) (by kernel_rfl) rfl rfl (by kernel_rfl) (by kernel_rfl) (by kernel_rfl) HQ (HST 8 66 _) (Or.inr (Or.inl ⟨by rfl,_,_,fun l b' w' hlk hF=>?_,(HC3.out)⟩)) ?_; (focus (have hq:=HD.out _ _ _ hF; go_simp; try simp only [enters_itoa _ _])); try simp only [putL,List.set])
       (refine tvp 9 67 rfl HQ (HST 9 67 _) ?_; try simp only [putL,List.set])
       (refine tvd 10 68 rfl HQ (HST 10 68 _) ?_; try simp only [putL,List.set])
       (refine flowV_take (i:=11) (t:=69) (m:=20) (oi:=⟨some 69,_,_,_,_,_⟩) rfl (by decide) (by kernel_rfl) (by kernel_rfl) rfl rfl (by kernel_rfl) (by kernel_rfl) (by kernel_rfl) HQ (HST 11 69 _) (Or.inr (Or.inl ⟨by rfl,_,_,fun l b' w' hlk hF=>?_,(HC4.out)⟩)) ?_; (focus (have hq:=HD.out _ _ _ hF; go_simp; try simp only [enters_ctypeText _ _])); try simp only [putL,List.set])
       (refine tvp 12 70 rfl HQ (HST 12 70 _) ?_; try simp only [putL,List.set])
       refine flowV_leave (k:=13) (r:=[14,15,16]) (L:=[⟨some 71,_,_,_,_,_⟩,⟨some 72,_,_,_,_,_⟩,⟨some 73,_,_,_,_,_⟩,⟨some 74,_,_,_,_,_⟩]) rfl (by kernel_rfl) (by kernel_rfl) rfl (by kernel_rfl) rfl (fun w' hF=>?_)
       have hF:Ext w6 w':=hF
       have BS7:=Lib.hid ((BS6.out.ext' hF).ext' ((Ext.refl w').alloc (.cells #[.string O1,.string O2,.string O3,.string T3,.string x.name] 9)))
       have zw':w'.heap.size < (w'.alloc (.cells #[.string O1,.string O2,.string O3,.string T3,.string x.name] 9)).heap.size:=by simp
       clear hF HD HC1 HC2 HC3 HC4 HST HQ
       go_wp2_with (first
        | (go_at_call 63; refine (join5 O1 O2 O3 T3 x.name w'.heap.size _ (Blk.new w' _ _) HZS.out).mono ?_; rintro r w8 ⟨J,rfl,hJ,x8⟩; have HJ:=Lib.hid hJ; have zJ:J.size ≤ 90:=join_size HJ.out HZS.out; have BS8:=Lib.hid (BS7.out.ext' x8); clear x8 hJ)
        | (go_at_call 61; refine (BS8.out.write _ (by have:=HTF.out j (by omega); simp only [cat_len,lit3]; omega)).mono ?_; rintro r w9 ⟨rfl,bs9,_⟩; have BS9:=Lib.hid bs9; clear bs9))
       case roundEnd=>exact ⟨⟨j + 1,by omega,by go_num,by have h:=BS9.out; rw [HLN.out,HLS.out.line,HTY.out,HNM.out]; simpa [HJ.out,join5L] using h⟩,by simp [intOf]; omega⟩
      ·have hem:x.name.toList.isEmpty=true:=hb2
       have HNM:Hid (nameT x.name=(⟨#[45]⟩:ByteArray).data.toList):=by have h:=HNM0.out; rw [hb2] at h; exact h
       have HZS:Hid (Small5 O1 O2 O3 T3 ⟨#[45]⟩):=⟨z0,z1,z2,z9,by decide⟩
       clear hb2 HNM0
       go_wp2_with fail
       have BY:Hid (Blk (wr.alloc (.cells #[.int .i64 x.op,.int .i64 x.a,.int .i64 x.b,.int .i64 x.ty.base,.int .i64 x.ty.bits,.string x.ty.name,.bool x.ty.opt,.bool x.ty.err,.string x.name] 93)) wr.heap.size 93 #[.int .i64 x.op,.int .i64 x.a,.int .i64 x.b,.int .i64 x.ty.base,.int .i64 x.ty.bits,.string x.ty.name,.bool x.ty.opt,.bool x.ty.err,.string x.name]):=Blk.new wr _ _
       have X6:Hid (Ext w (wr.alloc (.cells #[.int .i64 x.op,.int .i64 x.a,.int .i64 x.b,.int .i64 x.ty.base,.int .i64 x.ty.bits,.string x.ty.name,.bool x.ty.opt,.bool x.ty.err,.string x.name] 93))):=QX.out.alloc _
       have BS6:Hid (BSt w1 (codeT (l.take k) ++ funL f j) (wr.alloc (.cells #[.int .i64 x.op,.int .i64 x.a,.int .i64 x.b,.int .i64 x.ty.base,.int .i64 x.ty.bits,.string x.ty.name,.bool x.ty.opt,.bool x.ty.err,.string x.name] 93))):=QS.out.ext' ((Ext.refl _).alloc _)
       generalize wr.alloc (.cells #[.int .i64 x.op,.int .i64 x.a,.int .i64 x.b,.int .i64 x.ty.base,.int .i64 x.ty.bits,.string x.ty.name,.bool x.ty.opt,.bool x.ty.err,.string x.name] 93)=w6 at BY X6 BS6 ⊢
       generalize wr.heap.size=gy at BY ⊢
       clear d0 d1 d2 d3 d4 d5 d6 d7 d8 hem
       have HD:Hid (∀ (l':Array Bool) (b':Act) (w':World),Still (fun w'=>Ext w6 w') l' b' w' → w'.cell? ⟨gy,0,none⟩=some (.int .i64 x.op)∧w'.cell? ⟨gy,1,none⟩=some (.int .i64 x.a)∧w'.cell? ⟨gy,2,none⟩=some (.int .i64 x.b)∧w'.cell? ⟨gy,3,none⟩=some (.int .i64 x.ty.base)∧w'.cell? ⟨gy,4,none⟩=some (.int .i64 x.ty.bits)∧w'.cell? ⟨gy,5,none⟩=some (.string x.ty.name)∧w'.cell? ⟨gy,6,none⟩=some (.bool x.ty.opt)∧w'.cell? ⟨gy,7,none⟩=some (.bool x.ty.err)):=fun l' b' w' xx=>by
        have h:=BY.out.ext (show Ext w6 w' from xx)
        exact ⟨h.cell 0,h.cell 1,h.cell 2,h.cell 3,h.cell 4,h.cell 5,h.cell 6,h.cell 7⟩
       have HC1:Hid (∀ (l':Array Bool) (b':Act) (w':World),l'.getD 13 false=false → Still (fun w'=>Ext w6 w') l' b' w' → Calls Tryz.prog 62 #[.int .i64 x.op] w' fun e w''=>e=.returned (.string O1)∧Still (fun w'=>Ext w6 w') l' b' w''):=fun l' b' w' _ xx=>(HLS.out.i1 w' (X6.out.trans xx)).mono fun e w'' h=>⟨h.1,Ext.trans xx h.2⟩
       have HC2:Hid (∀ (l':Array Bool) (b':Act) (w':World),l'.getD 13 false=false → Still (fun w'=>Ext w6 w') l' b' w' → Calls Tryz.prog 62 #[.int .i64 x.a] w' fun e w''=>e=.returned (.string O2)∧Still (fun w'=>Ext w6 w') l' b' w''):=fun l' b' w' _ xx=>(HLS.out.i2 w' (X6.out.trans xx)).mono fun e w'' h=>⟨h.1,Ext.trans xx h.2⟩
       have HC3:Hid (∀ (l':Array Bool) (b':Act) (w':World),l'.getD 13 false=false → Still (fun w'=>Ext w6 w') l' b' w' → Calls Tryz.prog 62 #[.int .i64 x.b] w' fun e w''=>e=.returned (.string O3)∧Still (fun w'=>Ext w6 w') l' b' w''):=fun l' b' w' _ xx=>(HLS.out.i3 w' (X6.out.trans xx)).mono fun e w'' h=>⟨h.1,Ext.trans xx h.2⟩
       have HC4:Hid (∀ (l':Array Bool) (b':Act) (w':World),l'.getD 13 false=false → Still (fun w'=>Ext w6 w') l' b' w' → Calls Tryz.prog 64 #[.agg #[.int .i64 x.ty.base,.int .i64 x.ty.bits,.string x.ty.name,.bool x.ty.opt,.bool x.ty.err]] w' fun e w''=>e=.returned (.string T3)∧Still (fun w'=>Ext w6 w') l' b' w''):=fun l' b' w' _ xx=>(HTT2.out w' (X6.out.trans xx)).mono fun e w'' h=>⟨h.1,Ext.trans xx h.2⟩
       have HST:∀ (i k:Nat) (v9:Value) (l':Array Bool) (b':Act) (w':World),Still (fun w'=>Ext w6 w') (l'.setIfInBounds i true) (b'.put (some k) v9) w' ↔ Still (fun w'=>Ext w6 w') l' b' w':=fun _ _ _ _ _ _=>Iff.rfl
       refine flowV_begin 13 (Still (fun w'=>Ext w6 w')) #[false,false,false,false,false,false,false,false,false,false,false,false,false,false,false,false,false] rfl (by kernel_rfl) (fun _ _ _ _ _ h=>h) ((Ext.refl _).drew) (fun HQ=>?_)
       (refine tvp 0 58 rfl HQ (HST 0 58 _) ?_; try simp only [putL,List.set])
       (refine tvd 1 59 rfl HQ (HST 1 59 _) ?_; try simp only [putL,List.set])
       (refine flowV_take (i:=2) (t:=60) (m:=20) (oi:=⟨some 60,_,_,_,_,_⟩) rfl (by decide) (by kernel_rfl) (by kernel_rfl) rfl rfl (by kernel_rfl) (by kernel_rfl) (by kernel_rfl) HQ (HST 2 60 _) (Or.inr (Or.inl ⟨by rfl,_,_,fun l b' w' hlk hF=>?_,(HC1.out)⟩)) ?_; (focus (have hq:=HD.out _ _ _ hF; go_simp; try simp only [enters_itoa _ _])); try simp only [putL,List.set])
       (refine tvp 3 61 rfl HQ (HST 3 61 _) ?_; try simp only [putL,List.set])
       (refine tvd 4 62 rfl HQ (HST 4 62 _) ?_; try simp only [putL,List.set])
       (refine flowV_take (i:=5) (t:=63) (m:=20) (oi:=⟨some 63,_,_,_,_,_⟩) rfl (by decide) (by kernel_rfl) (by kernel_rfl) rfl rfl (by kernel_rfl) (by kernel_rfl) (by kernel_rfl) HQ (HST 5 63 _) (Or.inr (Or.inl ⟨by rfl,_,_,fun l b' w' hlk hF=>?_,(HC2.out)⟩)) ?_; (focus (have hq:=HD.out _ _ _ hF; go_simp; try simp only [enters_itoa _ _])); try simp only [putL,List.set])
       (refine tvp 6 64 rfl HQ (HST 6 64 _) ?_; try simp only [putL,List.set])
       (refine tvd 7 65 rfl HQ (HST 7 65 _) ?_; try simp only [putL,List.set])
       (refine flowV_take (i:=8) (t:=66) (m:=20) (oi:=⟨some 66,_,_,_,_,_⟩) rfl (by decide) (by kernel_rfl) (by kernel_rfl) rfl rfl (by kernel_rfl) (by kernel_rfl) (by kernel_rfl) HQ (HST 8 66 _) (Or.inr (Or.inl ⟨by rfl,_,_,fun l b' w' hlk hF=>?_,(HC3.out)⟩)) ?_; (focus (have hq:=HD.out _ _ _ hF; go_simp; try simp only [enters_itoa _ _])); try simp only [putL,List.set])
       (refine tvp 9 67 rfl HQ (HST 9 67 _) ?_; try simp only [putL,List.set])
       (refine tvd 10 68 rfl HQ (HST 10 68 _) ?_; try simp only [putL,List.set])
       (refine flowV_take (i:=11) (t:=69) (m:=20) (oi:=⟨some 69,_,_,_,_,_⟩) rfl (by decide) (by kernel_rfl) (by kernel_rfl) rfl rfl (by kernel_rfl) (by kernel_rfl) (by kernel_rfl) HQ (HST 11 69 _) (Or.inr (Or.inl ⟨by rfl,_,_,fun l b' w' hlk hF=>?_,(HC4.out)⟩)) ?_; (focus (have hq:=HD.out _ _ _ hF; go_simp; try simp only [enters_ctypeText _ _])); try simp only [putL,List.set])
       (refine tvp 12 70 rfl HQ (HST 12 70 _) ?_; try simp only [putL,List.set])
       refine flowV_leave (k:=13) (r:=[14,15,16]) (L:=[⟨some 71,_,_,_,_,_⟩,⟨some 72,_,_,_,_,_⟩,⟨some 73,_,_,_,_,_⟩,⟨some 74,_,_,_,_,_⟩]) rfl (by kernel_rfl) (by kernel_rfl) rfl (by kernel_rfl) rfl (fun w' hF=>?_)
       have hF:Ext w6 w':=hF
       have BS7:=Lib.hid ((BS6.out.ext' hF).ext' ((Ext.refl w').alloc (.cells #[.string O1,.string O2,.string O3,.string T3,.string ⟨#[45]⟩] 9)))
       have zw':w'.heap.size < (w'.alloc (.cells #[.string O1,.string O2,.string O3,.string T3,.string ⟨#[45]⟩] 9)).heap.size:=by simp
       clear hF HD HC1 HC2 HC3 HC4 HST HQ
       go_wp2_with (first
        | (go_at_call 63; refine (join5 O1 O2 O3 T3 ⟨#[45]⟩ w'.heap.size _ (Blk.new w' _ _) HZS.out).mono ?_; rintro r w8 ⟨J,rfl,hJ,x8⟩; have HJ:=Lib.hid hJ; have zJ:J.size ≤ 90:=join_size HJ.out HZS.out; have BS8:=Lib.hid (BS7.out.ext' x8); clear x8 hJ)
        | (go_at_call 61; refine (BS8.out.write _ (by have:=HTF.out j (by omega); simp only [cat_len,lit3]; omega)).mono ?_; rintro r w9 ⟨rfl,bs9,_⟩; have BS9:=Lib.hid bs9; clear bs9))
       case roundEnd=>exact ⟨⟨j + 1,by omega,by go_num,by have h:=BS9.out; rw [HLN.out,HLS.out.line,HTY.out,HNM.out]; simpa [HJ.out,join5L] using h⟩,by simp [intOf]; omega⟩
     ·obtain rfl:j=nc:=by omega
      go_wp2_with fail
      case roundEnd=>exact ⟨⟨k + 1,by omega,by go_num,by rw [HCT.out,← HNC.out]; exact QS.out⟩,by simp [intOf]; omega⟩
   ·have hkk:k=len:=by omega
    go_wp2_with (first
     | (go_at_call 65; refine (stringK _ _ _ _ BS.out.bld BS.out.ext.size).mono ?_; rintro r w9 ⟨rfl,x9⟩))
    go_ret2
    exact ⟨ret_s0 (by rw [ba_list,List.take_of_length_le (by have:=HLn.out; omega)]),X1.out.trans ⟨BS.out.ext.out.trans x9⟩⟩
 ·have HT:Hid (textS l=[]):=by unfold Hid textS; rw [if_neg hv]
  rw [HT.out]
  generalize validS l=v at *
  have hb:(v != 0)=true:=by simpa using hv
  go_enter Tryz.func14,Tryz.ntmps14
  go_wp2_with (first | (go_at_call 59; refine (HV.out).mono ?_; rintro r w1 ⟨rfl,x1⟩))
  go_ret2
  exact ⟨rfl,x1⟩
end Go.Proofs.YtknaemlnhediaaaGreatDoor.c
