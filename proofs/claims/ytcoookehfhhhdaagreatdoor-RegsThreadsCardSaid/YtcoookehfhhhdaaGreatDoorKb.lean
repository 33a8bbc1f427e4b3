/- Contract of the stack machine's Alone. Conditions: right types. -/
import Derived.Test.YtcoookehfhhhdaaGreatDoorEqb
namespace Go.Proofs.YtcoookehfhhhdaaGreatDoor.c
open Go.RowKit
set_option linter.unusedVariables false
set_option maxRecDepth 100000
set_option maxHeartbeats 3200000
set_option linter.unusedSimpArgs false
theorem kalone_not (a b:Int) (t:Ty) (nm:ByteArray) (v:Val) (ck:Bool) (w:World) :
  Calls Tryz.prog 116 #[.int .i64 8,.agg #[.int .i64 t.base,.int .i64 t.bits,.string t.name,.bool t.opt,.bool t.err],.agg (itA v),.bool ck] w fun e w'=>e=.returned (.tuple #[.agg (itA (nv (oneK ck ⟨8,a,b,t,nm⟩ v).1)),.int .i64 (oneK ck ⟨8,a,b,t,nm⟩ v).2])∧Ext w w':=by
 have HZ:=Lib.hid sizeIt
 obtain ⟨R,hR⟩:∃ R,R=oneK ck ⟨8,a,b,t,nm⟩ v:=⟨_,rfl⟩
 have HR:Hid (R=(b01 (v.n == 0),0)):=hR
 rw [← hR]
 generalize hc:(v.n == 0)=c at HR
 clear hR
 unfold itA
 have B0:Hid (Blk (((w.alloc (.cells #[.int .i64 t.base,.int .i64 t.bits,.string t.name,.bool t.opt,.bool t.err] 42)).alloc (.cells #[.int .i64 v.n,.bool v.null,.string v.err] 86)).alloc (.cells #[.int .i64 0,.bool false,.string ⟨#[]⟩] 86)) (w.heap.size + 1 + 1) 86 #[.int .i64 0,.bool false,.string ⟨#[]⟩]):=new3 w _ _ _ _
 have BU:Hid (Blk (((w.alloc (.cells #[.int .i64 t.base,.int .i64 t.bits,.string t.name,.bool t.opt,.bool t.err] 42)).alloc (.cells #[.int .i64 v.n,.bool v.null,.string v.err] 86)).alloc (.cells #[.int .i64 0,.bool false,.string ⟨#[]⟩] 86)) (w.heap.size + 1) 86 #[.int .i64 v.n,.bool v.null,.string v.err]):=Blk.alloc (new2 w _ _ _) _
 go_enter Tryz.func116,Tryz.ntmps116
 go_wp2_with (first
   | (go_at_call 149
      refine (rintOfT_any _ _ _ _ _ _).mono ?_
      rintro r w1 ⟨rfl,x1⟩
      have X1:Hid (Ext w (w1.alloc (.cells #[.bool (t.base == 3),.int .i64 t.bits] 122))):=(by unfold Hid; exact exA)
      have B1:Hid (Blk (w1.alloc (.cells #[.bool (t.base == 3),.int .i64 t.bits] 122)) (w.heap.size + 1 + 1) 86 #[.int .i64 0,.bool false,.string ⟨#[]⟩]):=(B0.out.ext x1).alloc _
      have BU1:=Lib.hid (BU.out.ext x1)
      have BI1:Hid (Blk (w1.alloc (.cells #[.bool (t.base == 3),.int .i64 t.bits] 122)) w1.heap.size 122 #[.bool (t.base == 3),.int .i64 t.bits]):=Blk.new w1 _ _
      have u0:=BU1.out.cell 0
      have u1:=BU1.out.cell 1
      have zu:=BU1.out.lt
      have zr:w.heap.size + 1 + 1 < w1.heap.size:=(B0.out.ext x1).lt
      simp only [List.getElem?_toArray,List.getElem?_cons_zero,List.getElem?_cons_succ] at u0 u1
      clear x1)
   | (go_at_call 147; refine (ktruth_any c _).mono ?_; rintro r w2 ⟨rfl,x2⟩; have B2:=Lib.hid (B1.out.ext x2); have X2:Hid (Ext w w2):=X1.out.trans x2; clear x2)
   | ((with_reducible show wpList _ _ _ (Oper.mk none (.store 86 (.tmp 8) _) _ _ _ _ :: _) _ _)
      refine wpList_store_row rfl 86 _ _ rfl (w.heap.size + 1 + 1) rfl 86 _ (itA (nv (b01 c))) B2.out rfl rfl (itA_one _) HZ.out ?_))
 exact bodyPost_ret (results_row_tmp rfl _ _ (w.heap.size + 1 + 1) 86 (itA (nv (b01 c))) (0,0) _ rfl (B2.out.row _) Tryz.underlying86 rfl HZ.out (.int .i64 0) rfl) rfl ⟨by rw [HR.out]; rfl,X2.out.setRow (by omega) _⟩
theorem kalone_unwrap (a b:Int) (t:Ty) (nm:ByteArray) (v:Val) (ck:Bool) (w:World) :
  Calls Tryz.prog 116 #[.int .i64 11,.agg #[.int .i64 t.base,.int .i64 t.bits,.string t.name,.bool t.opt,.bool t.err],.agg (itA v),.bool ck] w fun e w'=>e=.returned (.tuple #[.agg (itA (nv (oneK ck ⟨11,a,b,t,nm⟩ v).1)),.int .i64 (oneK ck ⟨11,a,b,t,nm⟩ v).2])∧Ext w w':=by
 have HZ:=Lib.hid sizeIt
 obtain ⟨vt,vn,nl,er,vo⟩:=v
 obtain ⟨R,hR⟩:∃ R,R=oneK ck ⟨11,a,b,t,nm⟩ ⟨vt,vn,nl,er,vo⟩:=⟨_,rfl⟩
 have HR:Hid (R=if (ck && nl)=true then (0,4) else (vn,0)):=hR
 rw [← hR]
 clear hR
 unfold itA
 have B0:Hid (Blk (((w.alloc (.cells #[.int .i64 t.base,.int .i64 t.bits,.string t.name,.bool t.opt,.bool t.err] 42)).alloc (.cells #[.int .i64 vn,.bool nl,.string er] 86)).alloc (.cells #[.int .i64 0,.bool false,.string ⟨#[]⟩] 86)) (w.heap.size + 1 + 1) 86 #[.int .i64 0,.bool false,.string ⟨#[]⟩]):=new3 w _ _ _ _
 have BU:Hid (Blk (((w.alloc (.cells #[.int .i64 t.base,.int .i64 t.bits,.string t.name,.bool t.opt,.bool t.err] 42)).alloc (.cells #[.int .i64 vn,.bool nl,.string er] 86)).alloc (.cells #[.int .i64 0,.bool false,.string ⟨#[]⟩] 86)) (w.heap.size + 1) 86 #[.int .i64 vn,.bool nl,.string er]):=Blk.alloc (new2 w _ _ _) _
 cases ck <;> cases nl
 ·go_enter Tryz.func116,Tryz.ntmps116
  go_wp2_with (first
    | (go_at_call 149
       refine (rintOfT_any _ _ _ _ _ _).mono ?_
       rintro r w1 ⟨rfl,x1⟩
       have X1:Hid (Ext w (w1.alloc (.cells #[.bool (t.base == 3),.int .i64 t.bits] 122))):=(by unfold Hid; exact exA)
       have B1:Hid (Blk (w1.alloc (.cells #[.bool (t.base == 3),.int .i64 t.bits] 122)) (w.heap.size + 1 + 1) 86 #[.int .i64 0,.bool false,.string ⟨#[]⟩]):=(B0.out.ext x1).alloc _
       have BU1:=Lib.hid (BU.out.ext x1)
       have BI1:Hid (Blk (w1.alloc (.cells #[.bool (t.base == 3),.int .i64 t.bits] 122)) w1.heap.size 122 #[.bool (t.base == 3),.int .i64 t.bits]):=Blk.new w1 _ _
       have u0:=BU1.out.cell 0
       have u1:=BU1.out.cell 1
       have zu:=BU1.out.lt
       have zr:w.heap.size + 1 + 1 < w1.heap.size:=(B0.out.ext x1).lt
       simp only [List.getElem?_toArray,List.getElem?_cons_zero,List.getElem?_cons_succ] at u0 u1
       clear x1)
    | ((with_reducible show wpList _ _ _ (Oper.mk none (.store 86 (.tmp 8) _) _ _ _ _ :: _) _ _)
       refine wpList_store_row rfl 86 _ _ rfl (w.heap.size + 1 + 1) rfl 86 _ (itA (nv vn)) B1.out rfl rfl (itA_one _) HZ.out ?_))
  exact bodyPost_ret (results_row_tmp rfl _ _ (w.heap.size + 1 + 1) 86 (itA (nv vn)) (0,0) _ rfl (B1.out.row _) Tryz.underlying86 rfl HZ.out (.int .i64 0) rfl) rfl ⟨by rw [HR.out]; rfl,X1.out.setRow (by omega) _⟩
 ·go_enter Tryz.func116,Tryz.ntmps116
  go_wp2_with (first
    | (go_at_call 149
       refine (rintOfT_any _ _ _ _ _ _).mono ?_
       rintro r w1 ⟨rfl,x1⟩
       have X1:Hid (Ext w (w1.alloc (.cells #[.bool (t.base == 3),.int .i64 t.bits] 122))):=(by unfold Hid; exact exA)
       have B1:Hid (Blk (w1.alloc (.cells #[.bool (t.base == 3),.int .i64 t.bits] 122)) (w.heap.size + 1 + 1) 86 #[.int .i64 0,.bool false,.string ⟨#[]⟩]):=(B0.out.ext x1).alloc _
       have BU1:=Lib.hid (BU.out.ext x1)
       have BI1:Hid (Blk (w1.alloc (.cells #[.bool (t.base == 3),.int .i64 t.bits] 122)) w1.heap.size 122 #[.bool (t.base == 3),.int .i64 t.bits]):=Blk.new w1 _ _
       have u0:=BU1.out.cell 0
       have u1:=BU1.out.cell 1
       have zu:=BU1.out.lt
       have zr:w.heap.size + 1 + 1 < w1.heap.size:=(B0.out.ext x1).lt
       simp only [List.getElem?_toArray,List.getElem?_cons_zero,List.getElem?_cons_succ] at u0 u1
       clear x1)
    | ((with_reducible show wpList _ _ _ (Oper.mk none (.store 86 (.tmp 8) _) _ _ _ _ :: _) _ _)
       refine wpList_store_row rfl 86 _ _ rfl (w.heap.size + 1 + 1) rfl 86 _ (itA (nv vn)) B1.out rfl rfl (itA_one _) HZ.out ?_))
  exact bodyPost_ret (results_row_tmp rfl _ _ (w.heap.size + 1 + 1) 86 (itA (nv vn)) (0,0) _ rfl (B1.out.row _) Tryz.underlying86 rfl HZ.out (.int .i64 0) rfl) rfl ⟨by rw [HR.out]; rfl,X1.out.setRow (by omega) _⟩
 ·go_enter Tryz.func116,Tryz.ntmps116
  go_wp2_with (first
    | (go_at_call 149
       refine (rintOfT_any _ _ _ _ _ _).mono ?_
       rintro r w1 ⟨rfl,x1⟩
       have X1:Hid (Ext w (w1.alloc (.cells #[.bool (t.base == 3),.int .i64 t.bits] 122))):=(by unfold Hid; exact exA)
       have B1:Hid (Blk (w1.alloc (.cells #[.bool (t.base == 3),.int .i64 t.bits] 122)) (w.heap.size + 1 + 1) 86 #[.int .i64 0,.bool false,.string ⟨#[]⟩]):=(B0.out.ext x1).alloc _
       have BU1:=Lib.hid (BU.out.ext x1)
       have BI1:Hid (Blk (w1.alloc (.cells #[.bool (t.base == 3),.int .i64 t.bits] 122)) w1.heap.size 122 #[.bool (t.base == 3),.int .i64 t.bits]):=Blk.new w1 _ _
       have u0:=BU1.out.cell 0
       have u1:=BU1.out.cell 1
       have zu:=BU1.out.lt
       have zr:w.heap.size + 1 + 1 < w1.heap.size:=(B0.out.ext x1).lt
       simp only [List.getElem?_toArray,List.getElem?_cons_zero,List.getElem?_cons_succ] at u0 u1
       clear x1)
    | ((with_reducible show wpList _ _ _ (Oper.mk none (.store 86 (.tmp 8) _) _ _ _ _ :: _) _ _)
       refine wpList_store_row rfl 86 _ _ rfl (w.heap.size + 1 + 1) rfl 86 _ (itA (nv vn)) B1.out rfl rfl (itA_one _) HZ.out ?_))
  exact bodyPost_ret (results_row_tmp rfl _ _ (w.heap.size + 1 + 1) 86 (itA (nv vn)) (0,0) _ rfl (B1.out.row _) Tryz.underlying86 rfl HZ.out (.int .i64 0) rfl) rfl ⟨by rw [HR.out]; rfl,X1.out.setRow (by omega) _⟩
 ·go_enter Tryz.func116,Tryz.ntmps116
  go_wp2_with (first
    | (go_at_call 149
       refine (rintOfT_any _ _ _ _ _ _).mono ?_
       rintro r w1 ⟨rfl,x1⟩
       have X1:Hid (Ext w (w1.alloc (.cells #[.bool (t.base == 3),.int .i64 t.bits] 122))):=(by unfold Hid; exact exA)
       have B1:Hid (Blk (w1.alloc (.cells #[.bool (t.base == 3),.int .i64 t.bits] 122)) (w.heap.size + 1 + 1) 86 #[.int .i64 0,.bool false,.string ⟨#[]⟩]):=(B0.out.ext x1).alloc _
       have BU1:=Lib.hid (BU.out.ext x1)
       have BI1:Hid (Blk (w1.alloc (.cells #[.bool (t.base == 3),.int .i64 t.bits] 122)) w1.heap.size 122 #[.bool (t.base == 3),.int .i64 t.bits]):=Blk.new w1 _ _
       have u0:=BU1.out.cell 0
       have u1:=BU1.out.cell 1
       have zu:=BU1.out.lt
       have zr:w.heap.size + 1 + 1 < w1.heap.size:=(B0.out.ext x1).lt
       simp only [List.getElem?_toArray,List.getElem?_cons_zero,List.getElem?_cons_succ] at u0 u1
       clear x1)
    | ((with_reducible show wpList _ _ _ (Oper.mk none (.store 86 (.tmp 8) _) _ _ _ _ :: _) _ _)
       refine wpList_store_row rfl 86 _ _ rfl (w.heap.size + 1 + 1) rfl 86 _ (itA (nv 0)) B1.out rfl rfl (itA_one _) HZ.out ?_))
  exact bodyPost_ret (results_row_tmp rfl _ _ (w.heap.size + 1 + 1) 86 (itA (nv 0)) (0,0) _ rfl (B1.out.row _) Tryz.underlying86 rfl HZ.out (.int .i64 4) rfl) rfl ⟨by rw [HR.out]; rfl,X1.out.setRow (by omega) _⟩
theorem kalone_wrap (a b:Int) (t:Ty) (nm:ByteArray) (v:Val) (ck:Bool) (w:World) (h1:1 ≤ t.bits) (h2:t.bits ≤ 31) :
  Calls Tryz.prog 116 #[.int .i64 10,.agg #[.int .i64 t.base,.int .i64 t.bits,.string t.name,.bool t.opt,.bool t.err],.agg (itA v),.bool ck] w fun e w'=>e=.returned (.tuple #[.agg (itA (nv (oneK ck ⟨10,a,b,t,nm⟩ v).1)),.int .i64 (oneK ck ⟨10,a,b,t,nm⟩ v).2])∧Ext w w':=by
 have HZ:=Lib.hid sizeIt
 obtain ⟨N,hN⟩:∃ N,bendI (t.base == 3) t.bits v.n=N:=⟨_,rfl⟩
 have HN:Hid (∀ w1,Calls Tryz.prog 148 #[.agg #[.bool (t.base == 3),.int .i64 t.bits],.int .i64 v.n] w1 fun e w'=>e=.returned (.int .i64 N)∧Ext w1 w'):=fun w1=>by
  have h:=bent_any (t.base == 3) t.bits v.n w1 h1 h2
  rwa [hN] at h
 obtain ⟨R,hR⟩:∃ R,R=oneK ck ⟨10,a,b,t,nm⟩ v:=⟨_,rfl⟩
 have HR:Hid (R=(N,0)):=by rw [hR]; unfold Hid oneK; simp only []; rw [← hN]; rfl
 rw [← hR]
 clear hR hN
 unfold itA
 have B0:Hid (Blk (((w.alloc (.cells #[.int .i64 t.base,.int .i64 t.bits,.string t.name,.bool t.opt,.bool t.err] 42)).alloc (.cells #[.int .i64 v.n,.bool v.null,.string v.err] 86)).alloc (.cells #[.int .i64 0,.bool false,.string ⟨#[]⟩] 86)) (w.heap.size + 1 + 1) 86 #[.int .i64 0,.bool false,.string ⟨#[]⟩]):=new3 w _ _ _ _
 have BU:Hid (Blk (((w.alloc (.cells #[.int .i64 t.base,.int .i64 t.bits,.string t.name,.bool t.opt,.bool t.err] 42)).alloc (.cells #[.int .i64 v.n,.bool v.null,.string v.err] 86)).alloc (.cells #[.int .i64 0,.bool false,.string ⟨#[]⟩] 86)) (w.heap.size + 1) 86 #[.int .i64 v.n,.bool v.null,.string v.err]):=Blk.alloc (new2 w _ _ _) _
 go_enter Tryz.func116,Tryz.ntmps116
 go_wp2_with (first
   | (go_at_call 149
      refine (rintOfT_any _ _ _ _ _ _).mono ?_
      rintro r w1 ⟨rfl,x1⟩
      have X1:Hid (Ext w (w1.alloc (.cells #[.bool (t.base == 3),.int .i64 t.bits] 122))):=(by unfold Hid; exact exA)
      have B1:Hid (Blk (w1.alloc (.cells #[.bool (t.base == 3),.int .i64 t.bits] 122)) (w.heap.size + 1 + 1) 86 #[.int .i64 0,.bool false,.string ⟨#[]⟩]):=(B0.out.ext x1).alloc _
      have BU1:=Lib.hid (BU.out.ext x1)
      have BI1:Hid (Blk (w1.alloc (.cells #[.bool (t.base == 3),.int .i64 t.bits] 122)) w1.heap.size 122 #[.bool (t.base == 3),.int .i64 t.bits]):=Blk.new w1 _ _
      have u0:=BU1.out.cell 0
      have u1:=BU1.out.cell 1
      have zu:=BU1.out.lt
      have zr:w.heap.size + 1 + 1 < w1.heap.size:=(B0.out.ext x1).lt
      simp only [List.getElem?_toArray,List.getElem?_cons_zero,List.getElem?_cons_succ] at u0 u1
      clear x1)
   | (go_at_call 148; (with_reducible refine (HN.out _).mono ?_); rintro r w2 ⟨rfl,x2⟩; have B2:=Lib.hid (B1.out.ext x2); have X2:Hid (Ext w w2):=X1.out.trans x2; clear x2)
   | ((with_reducible show wpList _ _ _ (Oper.mk none (.store 86 (.tmp 8) _) _ _ _ _ :: _) _ _)
      refine wpList_store_row rfl 86 _ _ rfl (w.heap.size + 1 + 1) rfl 86 _ (itA (nv N)) B2.out rfl rfl (itA_one _) HZ.out ?_))
 exact bodyPost_ret (results_row_tmp rfl _ _ (w.heap.size + 1 + 1) 86 (itA (nv N)) (0,0) _ rfl (B2.out.row _) Tryz.underlying86 rfl HZ.out (.int .i64 0) rfl) rfl ⟨by rw [HR.out]; rfl,X2.out.setRow (by omega) _⟩
theorem kalone_cast (a b:Int) (t:Ty) (nm:ByteArray) (v:Val) (ck:Bool) (w:World) (h1:1 ≤ t.bits) (h2:t.bits ≤ 31) :
  Calls Tryz.prog 116 #[.int .i64 9,.agg #[.int .i64 t.base,.int .i64 t.bits,.string t.name,.bool t.opt,.bool t.err],.agg (itA v),.bool ck] w fun e w'=>e=.returned (.tuple #[.agg (itA (nv (oneK ck ⟨9,a,b,t,nm⟩ v).1)),.int .i64 (oneK ck ⟨9,a,b,t,nm⟩ v).2])∧Ext w w':=by
 have HZ:=Lib.hid sizeIt
 obtain ⟨N,hN⟩:∃ N,bendI (t.base == 3) t.bits v.n=N:=⟨_,rfl⟩
 have HN:Hid (∀ w1,Calls Tryz.prog 148 #[.agg #[.bool (t.base == 3),.int .i64 t.bits],.int .i64 v.n] w1 fun e w'=>e=.returned (.int .i64 N)∧Ext w1 w'):=fun w1=>by
  have h:=bent_any (t.base == 3) t.bits v.n w1 h1 h2
  rwa [hN] at h
 obtain ⟨fb,hF⟩:∃ fb,fitI (t.base == 3) t.bits v.n=fb:=⟨_,rfl⟩
 have HF:Hid (∀ w1,Calls Tryz.prog 153 #[.agg #[.bool (t.base == 3),.int .i64 t.bits],.int .i64 v.n] w1 fun e w'=>e=.returned (.bool fb)∧Ext w1 w'):=fun w1=>by
  have h:=is_any (t.base == 3) t.bits v.n w1 h1 h2
  rwa [hF] at h
 obtain ⟨R,hR⟩:∃ R,R=oneK ck ⟨9,a,b,t,nm⟩ v:=⟨_,rfl⟩
 have HR:Hid (R=if (ck && !fb)=true then (0,3) else (N,0)):=by rw [hR]; unfold Hid oneK; simp only []; rw [← hN,← hF]; rfl
 rw [← hR]
 clear hR hN hF
 unfold itA
 have B0:Hid (Blk (((w.alloc (.cells #[.int .i64 t.base,.int .i64 t.bits,.string t.name,.bool t.opt,.bool t.err] 42)).alloc (.cells #[.int .i64 v.n,.bool v.null,.string v.err] 86)).alloc (.cells #[.int .i64 0,.bool false,.string ⟨#[]⟩] 86)) (w.heap.size + 1 + 1) 86 #[.int .i64 0,.bool false,.string ⟨#[]⟩]):=new3 w _ _ _ _
 have BU:Hid (Blk (((w.alloc (.cells #[.int .i64 t.base,.int .i64 t.bits,.string t.name,.bool t.opt,.bool t.err] 42)).alloc (.cells #[.int .i64 v.n,.bool v.null,.string v.err] 86)).alloc (.cells #[.int .i64 0,.bool false,.string ⟨#[]⟩] 86)) (w.heap.size + 1) 86 #[.int .i64 v.n,.bool v.null,.string v.err]):=Blk.alloc (new2 w _ _ _) _
 cases ck
 ·go_enter Tryz.func116,Tryz.ntmps116
  go_wp2_with (first
    | (go_at_call 149
       refine (rintOfT_any _ _ _ _ _ _).mono ?_
       rintro r w1 ⟨rfl,x1⟩
       have X1:Hid (Ext w (w1.alloc (.cells #[.bool (t.base == 3),.int .i64 t.bits] 122))):=(by unfold Hid; exact exA)
       have B1:Hid (Blk (w1.alloc (.cells #[.bool (t.base == 3),.int .i64 t.bits] 122)) (w.heap.size + 1 + 1) 86 #[.int .i64 0,.bool false,.string ⟨#[]⟩]):=(B0.out.ext x1).alloc _
       have BU1:=Lib.hid (BU.out.ext x1)
       have BI1:Hid (Blk (w1.alloc (.cells #[.bool (t.base == 3),.int .i64 t.bits] 122)) w1.heap.size 122 #[.bool (t.base == 3),.int .i64 t.bits]):=Blk.new w1 _ _
       have u0:=BU1.out.cell 0
       have u1:=BU1.out.cell 1
       have zu:=BU1.out.lt
       have zr:w.heap.size + 1 + 1 < w1.heap.size:=(B0.out.ext x1).lt
       simp only [List.getElem?_toArray,List.getElem?_cons_zero,List.getElem?_cons_succ] at u0 u1
       clear x1)
    | (go_at_call 148; (with_reducible refine (HN.out _).mono ?_); rintro r w2 ⟨rfl,x2⟩; have B2:=Lib.hid (B1.out.ext x2); have X2:Hid (Ext w w2):=X1.out.trans x2; clear x2)
    | ((with_reducible show wpList _ _ _ (Oper.mk none (.store 86 (.tmp 8) _) _ _ _ _ :: _) _ _)
       refine wpList_store_row rfl 86 _ _ rfl (w.heap.size + 1 + 1) rfl 86 _ (itA (nv N)) B2.out rfl rfl (itA_one _) HZ.out ?_))
  exact bodyPost_ret (results_row_tmp rfl _ _ (w.heap.size + 1 + 1) 86 (itA (nv N)) (0,0) _ rfl (B2.out.row _) Tryz.underlying86 rfl HZ.out (.int .i64 0) rfl) rfl ⟨by rw [HR.out]; rfl,X2.out.setRow (by omega) _⟩
 ·cases fb
  ·go_enter Tryz.func116,Tryz.ntmps116
   go_wp2_with (first
     | (go_at_call 149
        refine (rintOfT_any _ _ _ _ _ _).mono ?_
        rintro r w1 ⟨rfl,x1⟩
        have X1:Hid (Ext w (w1.alloc (.cells #[.bool (t.base == 3),.int .i64 t.bits] 122))):=(by unfold Hid; exact exA)
        have B1:Hid (Blk (w1.alloc (.cells #[.bool (t.base == 3),.int .i64 t.bits] 122)) (w.heap.size + 1 + 1) 86 #[.int .i64 0,.bool false,.string ⟨#[]⟩]):=(B0.out.ext x1).alloc _
        have BU1:=Lib.hid (BU.out.ext x1)
        have BI1:Hid (Blk (w1.alloc (.cells #[.bool (t.base == 3),.int .i64 t.bits] 122)) w1.heap.size 122 #[.bool (t.base == 3),.int .i64 t.bits]):=Blk.new w1 _ _
        have u0:=BU1.out.cell 0
        have u1:=BU1.out.cell 1
        have zu:=BU1.out.lt
        have zr:w.heap.size + 1 + 1 < w1.heap.size:=(B0.out.ext x1).lt
        simp only [List.getElem?_toArray,List.getElem?_cons_zero,List.getElem?_cons_succ] at u0 u1
        clear x1)
     | (go_at_call 153; (with_reducible refine (HF.out _).mono ?_); rintro r w2 ⟨rfl,x2⟩; have B2:=Lib.hid (B1.out.ext x2); have X2:Hid (Ext w w2):=X1.out.trans x2; clear x2)
     | ((with_reducible show wpList _ _ _ (Oper.mk none (.store 86 (.tmp 8) _) _ _ _ _ :: _) _ _)
        refine wpList_store_row rfl 86 _ _ rfl (w.heap.size + 1 + 1) rfl 86 _ (itA (nv 0)) B2.out rfl rfl (itA_one _) HZ.out ?_))
   exact bodyPost_ret (results_row_tmp rfl _ _ (w.heap.size + 1 + 1) 86 (itA (nv 0)) (0,0) _ rfl (B2.out.row _) Tryz.underlying86 rfl HZ.out (.int .i64 3) rfl) rfl ⟨by rw [HR.out]; rfl,X2.out.setRow (by omega) _⟩
  ·go_enter Tryz.func116,Tryz.ntmps116
   go_wp2_with (first
     | (go_at_call 149
        refine (rintOfT_any _ _ _ _ _ _).mono ?_
        rintro r w1 ⟨rfl,x1⟩
        have X1:Hid (Ext w (w1.alloc (.cells #[.bool (t.base == 3),.int .i64 t.bits] 122))):=(by unfold Hid; exact exA)
        have B1:Hid (Blk (w1.alloc (.cells #[.bool (t.base == 3),.int .i64 t.bits] 122)) (w.heap.size + 1 + 1) 86 #[.int .i64 0,.bool false,.string ⟨#[]⟩]):=(B0.out.ext x1).alloc _
        have BU1:=Lib.hid (BU.out.ext x1)
        have BI1:Hid (Blk (w1.alloc (.cells #[.bool (t.base == 3),.int .i64 t.bits] 122)) w1.heap.size 122 #[.bool (t.base == 3),.int .i64 t.bits]):=Blk.new w1 _ _
        have u0:=BU1.out.cell 0
        have u1:=BU1.out.cell 1
        have zu:=BU1.out.lt
        have zr:w.heap.size + 1 + 1 < w1.heap.size:=(B0.out.ext x1).lt
        simp only [List.getElem?_toArray,List.getElem?_cons_zero,List.getElem?_cons_succ] at u0 u1
        clear x1)
     | (go_at_call 153; (with_reducible refine (HF.out _).mono ?_); rintro r w2 ⟨rfl,x2⟩; have B2:=Lib.hid (B1.out.ext x2); have X2:Hid (Ext w w2):=X1.out.trans x2; have BI2:=Lib.hid (BI1.out.ext x2); have j0:=BI2.out.cell 0; have j1:=BI2.out.cell 1; have zi:=BI2.out.lt; have BU2:=Lib.hid ((BU1.out.alloc (.cells #[.bool (t.base == 3),.int .i64 t.bits] 122)).ext x2); have u20:=BU2.out.cell 0; have zu2:=BU2.out.lt; simp only [List.getElem?_toArray,List.getElem?_cons_zero,List.getElem?_cons_succ] at j0 j1 u20; clear x2)
     | (go_at_call 148; (with_reducible refine (HN.out _).mono ?_); rintro r w3 ⟨rfl,x3⟩; have B3:=Lib.hid (B2.out.ext x3); have X3:Hid (Ext w w3):=X2.out.trans x3; clear x3)
     | ((with_reducible show wpList _ _ _ (Oper.mk none (.store 86 (.tmp 8) _) _ _ _ _ :: _) _ _)
        refine wpList_store_row rfl 86 _ _ rfl (w.heap.size + 1 + 1) rfl 86 _ (itA (nv N)) B3.out rfl rfl (itA_one _) HZ.out ?_))
   exact bodyPost_ret (results_row_tmp rfl _ _ (w.heap.size + 1 + 1) 86 (itA (nv N)) (0,0) _ rfl (B3.out.row _) Tryz.underlying86 rfl HZ.out (.int .i64 0) rfl) rfl ⟨by rw [HR.out]; rfl,X3.out.setRow (by omega) _⟩
theorem kalone_neg (a b:Int) (t:Ty) (nm:ByteArray) (v:Val) (ck:Bool) (w:World) (h1:1 ≤ t.bits) (h2:t.bits ≤ 31) :
  Calls Tryz.prog 116 #[.int .i64 7,.agg #[.int .i64 t.base,.int .i64 t.bits,.string t.name,.bool t.opt,.bool t.err],.agg (itA v),.bool ck] w fun e w'=>e=.returned (.tuple #[.agg (itA (nv (oneK ck ⟨7,a,b,t,nm⟩ v).1)),.int .i64 (oneK ck ⟨7,a,b,t,nm⟩ v).2])∧Ext w w':=by
 have HZ:=Lib.hid sizeIt
 obtain ⟨N,hN⟩:∃ N,bendI (t.base == 3) t.bits v.n=N:=⟨_,rfl⟩
 have HN:Hid (∀ w1,Calls Tryz.prog 148 #[.agg #[.bool (t.base == 3),.int .i64 t.bits],.int .i64 v.n] w1 fun e w'=>e=.returned (.int .i64 N)∧Ext w1 w'):=fun w1=>by
  have h:=bent_any (t.base == 3) t.bits v.n w1 h1 h2
  rwa [hN] at h
 have fN:fitI (t.base == 3) t.bits N=true:=by rw [← hN]; exact bend_fit _ _ h1 h2
 have hw:IntKind.i64.wrap (-N)=-N:=by
  have h:=fit_in h1 h2 fN
  exact IntWalk.i64_in _ (by omega)
 obtain ⟨fb,hF⟩:∃ fb,fitI (t.base == 3) t.bits (-N)=fb:=⟨_,rfl⟩
 have HF:Hid (∀ w1,Calls Tryz.prog 153 #[.agg #[.bool (t.base == 3),.int .i64 t.bits],.int .i64 (-N)] w1 fun e w'=>e=.returned (.bool fb)∧Ext w1 w'):=fun w1=>by
  have h:=is_any (t.base == 3) t.bits (-N) w1 h1 h2
  rwa [hF] at h
 obtain ⟨M,hM⟩:∃ M,bendI (t.base == 3) t.bits (-N)=M:=⟨_,rfl⟩
 have HM:Hid (∀ w1,Calls Tryz.prog 148 #[.agg #[.bool (t.base == 3),.int .i64 t.bits],.int .i64 (-N)] w1 fun e w'=>e=.returned (.int .i64 M)∧Ext w1 w'):=fun w1=>by
  have h:=bent_any (t.base == 3) t.bits (-N) w1 h1 h2
  rwa [hM] at h
 obtain ⟨R,hR⟩:∃ R,R=oneK ck ⟨7,a,b,t,nm⟩ v:=⟨_,rfl⟩
 have HR:Hid (R=if (ck && !fb)=true then (0,1) else (M,0)):=by rw [hR]; unfold Hid oneK; simp only []; rw [hN,hF,hM]; rfl
 rw [← hR]
 clear hR hN hF hM fN
 unfold itA
 have B0:Hid (Blk (((w.alloc (.cells #[.int .i64 t.base,.int .i64 t.bits,.string t.name,.bool t.opt,.bool t.err] 42)).alloc (.cells #[.int .i64 v.n,.bool v.null,.string v.err] 86)).alloc (.cells #[.int .i64 0,.bool false,.string ⟨#[]⟩] 86)) (w.heap.size + 1 + 1) 86 #[.int .i64 0,.bool false,.string ⟨#[]⟩]):=new3 w _ _ _ _
 have BU:Hid (Blk (((w.alloc (.cells #[.int .i64 t.base,.int .i64 t.bits,.string t.name,.bool t.opt,.bool t.err] 42)).alloc (.cells #[.int .i64 v.n,.bool v.null,.string v.err] 86)).alloc (.cells #[.int .i64 0,.bool false,.string ⟨#[]⟩] 86)) (w.heap.size + 1) 86 #[.int .i64 v.n,.bool v.null,.string v.err]):=Blk.alloc (new2 w _ _ _) _
 cases ck
 ·go_enter Tryz.func116,Tryz.ntmps116
  go_wp2_with (first
    | (go_at_call 149
       refine (rintOfT_any _ _ _ _ _ _).mono ?_
       rintro r w1 ⟨rfl,x1⟩
       have X1:Hid (Ext w (w1.alloc (.cells #[.bool (t.base == 3),.int .i64 t.bits] 122))):=(by unfold Hid; exact exA)
       have B1:Hid (Blk (w1.alloc (.cells #[.bool (t.base == 3),.int .i64 t.bits] 122)) (w.heap.size + 1 + 1) 86 #[.int .i64 0,.bool false,.string ⟨#[]⟩]):=(B0.out.ext x1).alloc _
       have BU1:=Lib.hid (BU.out.ext x1)
       have BI1:Hid (Blk (w1.alloc (.cells #[.bool (t.base == 3),.int .i64 t.bits] 122)) w1.heap.size 122 #[.bool (t.base == 3),.int .i64 t.bits]):=Blk.new w1 _ _
       have u0:=BU1.out.cell 0
       have u1:=BU1.out.cell 1
       have zu:=BU1.out.lt
       have zr:w.heap.size + 1 + 1 < w1.heap.size:=(B0.out.ext x1).lt
       simp only [List.getElem?_toArray,List.getElem?_cons_zero,List.getElem?_cons_succ] at u0 u1
       clear x1)
    | (go_at_call 148; (with_reducible refine (HN.out _).mono ?_); rintro r w2 ⟨rfl,x2⟩; have B2:=Lib.hid (B1.out.ext x2); have X2:Hid (Ext w w2):=X1.out.trans x2; have BI2:=Lib.hid (BI1.out.ext x2); have j0:=BI2.out.cell 0; have j1:=BI2.out.cell 1; have zi:=BI2.out.lt; have BU2:=Lib.hid ((BU1.out.alloc (.cells #[.bool (t.base == 3),.int .i64 t.bits] 122)).ext x2); have u20:=BU2.out.cell 0; have zu2:=BU2.out.lt; simp only [List.getElem?_toArray,List.getElem?_cons_zero,List.getElem?_cons_succ] at j0 j1 u20; clear x2)
    | (go_at_call 148; (with_reducible refine (HM.out _).mono ?_); rintro r w3 ⟨rfl,x3⟩; have B3:=Lib.hid (B2.out.ext x3); have X3:Hid (Ext w w3):=X2.out.trans x3; clear x3)
    | ((with_reducible show wpList _ _ _ (Oper.mk none (.store 86 (.tmp 8) _) _ _ _ _ :: _) _ _)
       refine wpList_store_row rfl 86 _ _ rfl (w.heap.size + 1 + 1) rfl 86 _ (itA (nv M)) B3.out rfl rfl (itA_one _) HZ.out ?_))
  exact bodyPost_ret (results_row_tmp rfl _ _ (w.heap.size + 1 + 1) 86 (itA (nv M)) (0,0) _ rfl (B3.out.row _) Tryz.underlying86 rfl HZ.out (.int .i64 0) rfl) rfl ⟨by rw [HR.out]; rfl,X3.out.setRow (by omega) _⟩
 ·cases fb
  ·go_enter Tryz.func116,Tryz.ntmps116
   go_wp2_with (first
     | (go_at_call 149
        refine (rintOfT_any _ _ _ _ _ _).mono ?_
        rintro r w1 ⟨rfl,x1⟩
        have X1:Hid (Ext w (w1.alloc (.cells #[.bool (t.base == 3),.int .i64 t.bits] 122))):=(by unfold Hid; exact exA)
        have B1:Hid (Blk (w1.alloc (.cells #[.bool (t.base == 3),.int .i64 t.bits] 122)) (w.heap.size + 1 + 1) 86 #[.int .i64 0,.bool false,.string ⟨#[]⟩]):=(B0.out.ext x1).alloc _
        have BU1:=Lib.hid (BU.out.ext x1)
        have BI1:Hid (Blk (w1.alloc (.cells #[.bool (t.base == 3),.int .i64 t.bits] 122)) w1.heap.size 122 #[.bool (t.base == 3),.int .i64 t.bits]):=Blk.new w1 _ _
        have u0:=BU1.out.cell 0
        have u1:=BU1.out.cell 1
        have zu:=BU1.out.lt
        have zr:w.heap.size + 1 + 1 < w1.heap.size:=(B0.out.ext x1).lt
        simp only [List.getElem?_toArray,List.getElem?_cons_zero,List.getElem?_cons_succ] at u0 u1
        clear x1)
     | (go_at_call 148; (with_reducible refine (HN.out _).mono ?_); rintro r w2 ⟨rfl,x2⟩; have B2:=Lib.hid (B1.out.ext x2); have X2:Hid (Ext w w2):=X1.out.trans x2; have BI2:=Lib.hid (BI1.out.ext x2); have j0:=BI2.out.cell 0; have j1:=BI2.out.cell 1; have zi:=BI2.out.lt; have BU2:=Lib.hid ((BU1.out.alloc (.cells #[.bool (t.base == 3),.int .i64 t.bits] 122)).ext x2); have u20:=BU2.out.cell 0; have zu2:=BU2.out.lt; simp only [List.getElem?_toArray,List.getElem?_cons_zero,List.getElem?_cons_succ] at j0 j1 u20; clear x2)
     | (go_at_call 153; (with_reducible refine (HF.out _).mono ?_); rintro r w3 ⟨rfl,x3⟩; have B3:=Lib.hid (B2.out.ext x3); have X3:Hid (Ext w w3):=X2.out.trans x3; clear x3)
     | ((with_reducible show wpList _ _ _ (Oper.mk none (.store 86 (.tmp 8) _) _ _ _ _ :: _) _ _)
        refine wpList_store_row rfl 86 _ _ rfl (w.heap.size + 1 + 1) rfl 86 _ (itA (nv 0)) B3.out rfl rfl (itA_one _) HZ.out ?_))
   exact bodyPost_ret (results_row_tmp rfl _ _ (w.heap.size + 1 + 1) 86 (itA (nv 0)) (0,0) _ rfl (B3.out.row _) Tryz.underlying86 rfl HZ.out (.int .i64 1) rfl) rfl ⟨by rw [HR.out]; rfl,X3.out.setRow (by omega) _⟩
  ·go_enter Tryz.func116,Tryz.ntmps116
   go_wp2_with (first
     | (go_at_call 149
        refine (rintOfT_any _ _ _ _ _ _).mono ?_
        rintro r w1 ⟨rfl,x1⟩
        have X1:Hid (Ext w (w1.alloc (.cells #[.bool (t.base == 3),.int .i64 t.bits] 122))):=(by unfold Hid; exact exA)
        have B1:Hid (Blk (w1.alloc (.cells #[.bool (t.base == 3),.int .i64 t.bits] 122)) (w.heap.size + 1 + 1) 86 #[.int .i64 0,.bool false,.string ⟨#[]⟩]):=(B0.out.ext x1).alloc _
        have BU1:=Lib.hid (BU.out.ext x1)
        have BI1:Hid (Blk (w1.alloc (.cells #[.bool (t.base == 3),.int .i64 t.bits] 122)) w1.heap.size 122 #[.bool (t.base == 3),.int .i64 t.bits]):=Blk.new w1 _ _
        have u0:=BU1.out.cell 0
        have u1:=BU1.out.cell 1
        have zu:=BU1.out.lt
        have zr:w.heap.size + 1 + 1 < w1.heap.size:=(B0.out.ext x1).lt
        simp only [List.getElem?_toArray,List.getElem?_cons_zero,List.getElem?_cons_succ] at u0 u1
        clear x1)
     | (go_at_call 148; (with_reducible refine (HN.out _).mono ?_); rintro r w2 ⟨rfl,x2⟩; have B2:=Lib.hid (B1.out.ext x2); have X2:Hid (Ext w w2):=X1.out.trans x2; have BI2:=Lib.hid (BI1.out.ext x2); have j0:=BI2.out.cell 0; have j1:=BI2.out.cell 1; have zi:=BI2.out.lt; have BU2:=Lib.hid ((BU1.out.alloc (.cells #[.bool (t.base == 3),.int .i64 t.bits] 122)).ext x2); have u20:=BU2.out.cell 0; have zu2:=BU2.out.lt; simp only [List.getElem?_toArray,List.getElem?_cons_zero,List.getElem?_cons_succ] at j0 j1 u20; clear x2)
     | (go_at_call 153; (with_reducible refine (HF.out _).mono ?_); rintro r w3 ⟨rfl,x3⟩; have B3:=Lib.hid (B2.out.ext x3); have X3:Hid (Ext w w3):=X2.out.trans x3; have BI3:=Lib.hid (BI2.out.ext x3); have k0:=BI3.out.cell 0; have k1:=BI3.out.cell 1; have zi3:=BI3.out.lt; have BU3:=Lib.hid (BU2.out.ext x3); have u30:=BU3.out.cell 0; have zu3:=BU3.out.lt; simp only [List.getElem?_toArray,List.getElem?_cons_zero,List.getElem?_cons_succ] at k0 k1 u30; clear x3)
     | (go_at_call 148; (with_reducible refine (HM.out _).mono ?_); rintro r w4 ⟨rfl,x4⟩; have B4:=Lib.hid (B3.out.ext x4); have X4:Hid (Ext w w4):=X3.out.trans x4; clear x4)
     | ((with_reducible show wpList _ _ _ (Oper.mk none (.store 86 (.tmp 8) _) _ _ _ _ :: _) _ _)
        refine wpList_store_row rfl 86 _ _ rfl (w.heap.size + 1 + 1) rfl 86 _ (itA (nv M)) B4.out rfl rfl (itA_one _) HZ.out ?_))
   exact bodyPost_ret (results_row_tmp rfl _ _ (w.heap.size + 1 + 1) 86 (itA (nv M)) (0,0) _ rfl (B4.out.row _) Tryz.underlying86 rfl HZ.out (.int .i64 0) rfl) rfl ⟨by rw [HR.out]; rfl,X4.out.setRow (by omega) _⟩
end Go.Proofs.YtcoookehfhhhdaaGreatDoor.c
