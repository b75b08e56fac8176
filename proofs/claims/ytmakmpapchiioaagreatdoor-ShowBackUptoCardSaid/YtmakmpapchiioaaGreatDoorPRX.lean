/-
  DERIVED. Contracts of functions that the law reaches, and the law, for every input. No conditions.
-/
import Derived.Test.YtmakmpapchiioaaGreatDoorSX3
import Derived.Test.YtmakmpapchiioaaGreatDoorPRW
import Derived.Deep.CondSized
open Go Go.AM Go.Proofs TR
set_option maxRecDepth 100000
namespace Go.Proofs.YtmakmpapchiioaaGreatDoor
mutual
theorem bulk_eq {H:Type}:∀(d:DataW H),Rows.uptoBulk d=bulkW d
 |.lit (.string _)=>by simp[Rows.uptoBulk,bulkW]
 |.lit (.bool _)=>by simp[Rows.uptoBulk,bulkW]
 |.lit (.int _ _)=>by simp[Rows.uptoBulk,bulkW]
 |.lit (.float _ _)=>by simp[Rows.uptoBulk,bulkW]
 |.lit .nil=>by simp[Rows.uptoBulk,bulkW]
 |.nil=>by simp[Rows.uptoBulk,bulkW]
 |.ptr d=>by simp[Rows.uptoBulk,bulkW,bulk_eq d]
 |.slice a b=>by simp[Rows.uptoBulk,bulkW,bulkAll_eq a,bulkAll_eq b]
 |.agg a=>by simp[Rows.uptoBulk,bulkW,bulkAll_eq a]
 |.iface _ d=>by simp[Rows.uptoBulk,bulkW,bulk_eq d]
 |.map es=>by simp[Rows.uptoBulk,bulkW,bulkEntries_eq es]
 |.held _=>by simp[Rows.uptoBulk,bulkW]
theorem bulkAll_eq {H:Type}:∀(d:List (DataW H)),Rows.uptoBulkAll d=bulkAll d
 | []=>by simp[Rows.uptoBulkAll,bulkAll]
 |x::r=>by simp[Rows.uptoBulkAll,bulkAll,bulk_eq x,bulkAll_eq r]
theorem bulkEntries_eq {H:Type}:∀(d:List (Lit×DataW H)),Rows.uptoBulkEntries d=bulkEntries d
 | []=>by simp[Rows.uptoBulkEntries,bulkEntries]
 |x::r=>by simp[Rows.uptoBulkEntries,bulkEntries,bulkEntry_eq x,bulkEntries_eq r]
theorem bulkEntry_eq {H:Type}:∀(d:Lit×DataW H),Rows.uptoBulkEntry d=bulkEntry d
 |(.string _,d)=>by simp[Rows.uptoBulkEntry,bulkEntry,bulk_eq d]
 |(.bool _,d)=>by simp[Rows.uptoBulkEntry,bulkEntry,bulk_eq d]
 |(.int _ _,d)=>by simp[Rows.uptoBulkEntry,bulkEntry,bulk_eq d]
 |(.float _ _,d)=>by simp[Rows.uptoBulkEntry,bulkEntry,bulk_eq d]
 |(.nil,d)=>by simp[Rows.uptoBulkEntry,bulkEntry,bulk_eq d]
end
theorem small_of {H:Type} {ds:List (DataW H)} (h:Rows.uptoSmall H ds=true):bulkAll ds≤1048576:=by
 rw[←bulkAll_eq];exact of_decide_eq_true h
theorem dec_str (y:PV) (h:TP Tryz.prog 9 [y]):∃d,y=eStr d∧True:=by
 obtain⟨s,e,_⟩:=tp_str (by kernel_rfl) h
 cases e;exact⟨s,rfl,trivial⟩
theorem dec_ty:∀(n:Nat) (cs:List PV),SizeOf.sizeOf cs<n→TP Tryz.prog 64 cs→∃t,PV.agg cs=eT t∧True
 |0,cs,hn,_=>by omega
 |n+1,cs,hn,h=>by
  obtain⟨hl,hf⟩:=tp_struct (n:=3) (l:=[(0,3,1),(1,9,1),(2,62,1)]) (by kernel_rfl) h
  match cs,hl with
  | [a,b,c],_=>
    obtain⟨k,e1,_⟩:=tp_int (k:=.i64) (by kernel_rfl) (hf (0,3,1) (by simp))
    obtain⟨s,e2,_⟩:=tp_str (by kernel_rfl) (hf (1,9,1) (by simp))
    obtain⟨xs,e3,hb,hc,ha⟩:=tp_slice (e:=64) (c:=3) (b:=48) (agg:=true) (by kernel_rfl) (hf (2,62,1) (by simp))
    cases e1;cases e2;cases e3
    obtain⟨l,rfl,hq⟩:=list_map (enc:=eT) (Q:=fun _=>True) xs (fun y hy=>by
     obtain⟨ys,rfl⟩:=(ha y hy).1 rfl
     have h1:=List.sizeOf_lt_of_mem hy
     exact dec_ty n ys (by simp at hn h1;omega) (hc _ hy))
    exact⟨.mk k s l,by rw[eT,eTs_map],trivial⟩
theorem rgPs_in:∀{l:List Pt},(∀t∈l,SH.rgP t)→SH.rgPs l
 | [],_=>by rw[SH.rgPs];trivial
 |x::r,h=>by rw[SH.rgPs];exact⟨h x (by simp),rgPs_in fun t ht=>h t (by simp[ht])⟩
theorem rgEs_in:∀{l:List Ex},(∀t∈l,SH.rgE t)→SH.rgEs l
 | [],_=>by rw[SH.rgEs];trivial
 |x::r,h=>by rw[SH.rgEs];exact⟨h x (by simp),rgEs_in fun t ht=>h t (by simp[ht])⟩
theorem rgAs_in:∀{l:List Arm},(∀a∈l,SH.rgP a.pat∧SH.rgE a.body)→SH.rgAs l
 | [],_=>by rw[SH.rgAs];trivial
 |.mk p e::r,h=>by rw[SH.rgAs];exact⟨(h (.mk p e) (by simp)).1,(h (.mk p e) (by simp)).2,rgAs_in fun t ht=>h t (by simp[ht])⟩
theorem wf64 {k:Int} (h:(Lit.int .i64 k).wf=true):SH.i64 k:=by
 have h:(decide (IntKind.i64.min≤k)&&decide (k≤IntKind.i64.max))=true:=h
 simp only[Bool.and_eq_true,decide_eq_true_eq]at h
 exact⟨h.1,h.2⟩
theorem dec_pat:∀(n:Nat) (cs:List PV),SizeOf.sizeOf cs<n→TP Tryz.prog 162 cs→∃t,PV.agg cs=eP t∧SH.rgP t
 |0,cs,hn,_=>by omega
 |n+1,cs,hn,h=>by
  obtain⟨hl,hf⟩:=tp_struct (n:=4) (l:=[(0,3,1),(1,3,1),(2,9,1),(3,160,1)]) (by kernel_rfl) h
  match cs,hl with
  | [a,b,c,d],_=>
    obtain⟨k,e1,_⟩:=tp_int (k:=.i64) (by kernel_rfl) (hf (0,3,1) (by simp))
    obtain⟨m,e4,wm⟩:=tp_int (k:=.i64) (by kernel_rfl) (hf (1,3,1) (by simp))
    obtain⟨s,e2,_⟩:=tp_str (by kernel_rfl) (hf (2,9,1) (by simp))
    obtain⟨xs,e3,hb,hc,ha⟩:=tp_slice (e:=162) (c:=4) (b:=56) (agg:=true) (by kernel_rfl) (hf (3,160,1) (by simp))
    cases e1;cases e2;cases e3;cases e4
    obtain⟨l,rfl,hq⟩:=list_map (enc:=eP) (Q:=SH.rgP) xs (fun y hy=>by
     obtain⟨ys,rfl⟩:=(ha y hy).1 rfl
     have h1:=List.sizeOf_lt_of_mem hy
     exact dec_pat n ys (by simp at hn h1;omega) (hc _ hy))
    exact⟨.mk k m s l,by rw[eP,ePs_map],by rw[SH.rgP];exact⟨wf64 wm,rgPs_in hq⟩⟩
theorem sz_append (a b:List PV):SizeOf.sizeOf b≤SizeOf.sizeOf (a++b):=by
 induction a with
 |nil=>simp
 |cons x r ih=>simp;omega
theorem dec_ex:∀(n:Nat) (cs:List PV),SizeOf.sizeOf cs<n→TP Tryz.prog 68 cs→∃t,PV.agg cs=eE t∧SH.rgE t
 |0,cs,hn,_=>by omega
 |n+1,cs,hn,h=>by
  obtain⟨hl,hf⟩:=tp_struct (n:=8) (l:=[(0,3,1),(1,3,1),(2,9,1),(3,51,1),(4,62,1),(5,65,1),(6,66,1),(7,3,1)]) (by kernel_rfl) h
  match cs,hl with
  | [a0,a1,a2,a3,a4,a5,a6,a7],_=>
    obtain⟨k,e0,_⟩:=tp_int (k:=.i64) (by kernel_rfl) (hf (0,3,1) (by simp))
    obtain⟨m,e1,wm⟩:=tp_int (k:=.i64) (by kernel_rfl) (hf (1,3,1) (by simp))
    obtain⟨s,e2,_⟩:=tp_str (by kernel_rfl) (hf (2,9,1) (by simp))
    obtain⟨ns,e3,_⟩:=tp_list1 (e:=9) (c:=1) (b:=16) (by kernel_rfl) (hf (3,51,1) (by simp)) dec_str
    obtain⟨ts,e4,_⟩:=tp_list (e:=64) (c:=3) (b:=48) (enc:=eT) (Q:=fun _=>True) (by kernel_rfl) (hf (4,62,1) (by simp)) (fun cs hcs=>dec_ty _ cs (Nat.lt_succ_self _) hcs)
    obtain⟨xs,e5,_,hc5,ha5⟩:=tp_slice (e:=68) (c:=8) (b:=136) (agg:=true) (by kernel_rfl) (hf (5,65,1) (by simp))
    obtain⟨ms,e6,_,hc6,ha6⟩:=tp_slice (e:=164) (c:=12) (b:=192) (agg:=true) (by kernel_rfl) (hf (6,66,1) (by simp))
    obtain⟨p,e7,_⟩:=tp_int (k:=.i64) (by kernel_rfl) (hf (7,3,1) (by simp))
    cases e0;cases e1;cases e2;cases e3;cases e4;cases e5;cases e6;cases e7
    obtain⟨l5,rfl,h5⟩:=list_map (enc:=eE) (Q:=SH.rgE) xs (fun y hy=>by
     obtain⟨ys,rfl⟩:=(ha5 y hy).1 rfl
     have h1:=List.sizeOf_lt_of_mem hy
     exact dec_ex n ys (by simp at hn h1;omega) (hc5 _ hy))
    obtain⟨l6,rfl,h6⟩:=list_map (enc:=eA) (Q:=fun a=>SH.rgP a.pat∧SH.rgE a.body) ms (fun y hy=>by
     obtain⟨ys,rfl⟩:=(ha6 y hy).1 rfl
     have h1:=List.sizeOf_lt_of_mem hy
     obtain⟨hl6,hf6⟩:=tp_struct (n:=12) (l:=[(0,162,4),(4,68,8)]) (by kernel_rfl) (hc6 _ hy)
     simp only[PV.cells]at hl6 hf6
     obtain⟨q1,w1,r1⟩:=dec_pat _ _ (Nat.lt_succ_self _) (hf6 (0,162,4) (by simp))
     have hd:(ys.drop 4).take 8=ys.drop 4:=List.take_of_length_le (by simp;omega)
     have hs:=sz_append (ys.take 4) (ys.drop 4)
     rw[List.take_append_drop]at hs
     have h2:=hf6 (4,68,8) (by simp)
     simp only[hd]at h2
     obtain⟨q2,w2,r2⟩:=dec_ex n (ys.drop 4) (by simp at hn h1;omega) h2
     refine⟨.mk q1 q2,?_,r1,r2⟩
     rw[eA,←w1,←w2]
     simp only[PV.cells,List.drop_zero,List.take_append_drop])
    exact⟨.mk k m s ns ts l5 l6 p,by rw[eE,eTs_map,eEs_map,eAs_map],by rw[SH.rgE];exact⟨wf64 wm,rgEs_in h5,rgAs_in h6⟩⟩
theorem decl_ss {x:PV} (h:TP Tryz.prog 51 [x]):∃l:List ByteArray,x=.sl 1 (l.map eStr):=by
 obtain⟨ns,e3,_⟩:=tp_list1 (e:=9) (c:=1) (b:=16) (by kernel_rfl) h dec_str
 cases e3;exact⟨ns,rfl⟩
theorem decl_ts {x:PV} (h:TP Tryz.prog 62 [x]):∃l:List Ty,x=.sl 3 (eTs l):=by
 obtain⟨ts,e4,_⟩:=tp_list (e:=64) (c:=3) (b:=48) (enc:=eT) (Q:=fun _=>True) (by kernel_rfl) h (fun cs hcs=>dec_ty _ cs (Nat.lt_succ_self _) hcs)
 cases e4;exact⟨ts,by rw[eTs_map]⟩
theorem decl_use (cs:List PV) (h:TP Tryz.prog 49 cs):∃f:LUse,PV.agg cs=elUse f∧True:=by
 obtain⟨hl,hf⟩:=tp_struct (n:=3) (l:=[(0,9,1),(1,3,1),(2,3,1)]) (by kernel_rfl) h
 match cs,hl with
 | [a0,a1,a2],_=>
   obtain⟨s,e0,_⟩:=tp_str (by kernel_rfl) (hf (0,9,1) (by simp))
   obtain⟨k,e1,_⟩:=tp_int (k:=.i64) (by kernel_rfl) (hf (1,3,1) (by simp))
   obtain⟨m,e2,_⟩:=tp_int (k:=.i64) (by kernel_rfl) (hf (2,3,1) (by simp))
   cases e0;cases e1;cases e2
   exact⟨⟨s,k,m⟩,rfl,trivial⟩
theorem decl_fu (cs:List PV) (h:TP Tryz.prog 70 cs):∃f:LFu,PV.agg cs=elFu f∧SH.rgE f.body:=by
 obtain⟨hl,hf⟩:=tp_struct (n:=15) (l:=[(0,9,1),(1,51,1),(2,51,1),(3,62,1),(4,64,3),(7,68,8)]) (by kernel_rfl) h
 match cs,hl with
 | [a0,a1,a2,a3,b1,b2,b3,c1,c2,c3,c4,c5,c6,c7,c8],_=>
   obtain⟨s,e0,_⟩:=tp_str (by kernel_rfl) (hf (0,9,1) (by simp))
   obtain⟨l1,e1⟩:=decl_ss (hf (1,51,1) (by simp))
   obtain⟨l2,e2⟩:=decl_ss (hf (2,51,1) (by simp))
   obtain⟨l3,e3⟩:=decl_ts (hf (3,62,1) (by simp))
   obtain⟨t,e4,_⟩:=dec_ty _ [b1,b2,b3] (Nat.lt_succ_self _) (hf (4,64,3) (by simp))
   obtain⟨e,e5,re⟩:=dec_ex _ [c1,c2,c3,c4,c5,c6,c7,c8] (Nat.lt_succ_self _) (hf (7,68,8) (by simp))
   cases e0;subst e1;subst e2;subst e3
   refine⟨⟨s,l1,l2,l3,t,e⟩,?_,re⟩
   rw[elFu,←e4,←e5];rfl
theorem decl_im (cs:List PV) (h:TP Tryz.prog 60 cs):∃f:LIm,PV.agg cs=elIm f∧∀g∈f.funcs,SH.rgE g.body:=by
 obtain⟨hl,hf⟩:=tp_struct (n:=3) (l:=[(0,9,1),(1,9,1),(2,27,1)]) (by kernel_rfl) h
 match cs,hl with
 | [a0,a1,a2],_=>
   obtain⟨s,e0,_⟩:=tp_str (by kernel_rfl) (hf (0,9,1) (by simp))
   obtain⟨u,e1,_⟩:=tp_str (by kernel_rfl) (hf (1,9,1) (by simp))
   obtain⟨fs,e2,_,hq⟩:=tp_list (e:=70) (c:=15) (b:=272) (enc:=elFu) (Q:=fun f=>SH.rgE f.body) (by kernel_rfl) (hf (2,27,1) (by simp)) (fun cs hcs=>decl_fu cs hcs)
   cases e0;cases e1;cases e2
   exact⟨⟨s,u,fs⟩,rfl,hq⟩
theorem decl_mk (cs:List PV) (h:TP Tryz.prog 103 cs):∃f:LMk,PV.agg cs=elMk f∧True:=by
 obtain⟨hl,hf⟩:=tp_struct (n:=2) (l:=[(0,9,1),(1,62,1)]) (by kernel_rfl) h
 match cs,hl with
 | [a0,a1],_=>
   obtain⟨s,e0,_⟩:=tp_str (by kernel_rfl) (hf (0,9,1) (by simp))
   obtain⟨l3,e3⟩:=decl_ts (hf (1,62,1) (by simp))
   cases e0;subst e3
   exact⟨⟨s,l3⟩,rfl,trivial⟩
theorem decl_dt (cs:List PV) (h:TP Tryz.prog 54 cs):∃f:LDt,PV.agg cs=elDt f∧True:=by
 obtain⟨hl,hf⟩:=tp_struct (n:=3) (l:=[(0,9,1),(1,51,1),(2,52,1)]) (by kernel_rfl) h
 match cs,hl with
 | [a0,a1,a2],_=>
   obtain⟨s,e0,_⟩:=tp_str (by kernel_rfl) (hf (0,9,1) (by simp))
   obtain⟨l1,e1⟩:=decl_ss (hf (1,51,1) (by simp))
   obtain⟨fs,e2,_⟩:=tp_list (e:=103) (c:=2) (b:=40) (enc:=elMk) (Q:=fun _=>True) (by kernel_rfl) (hf (2,52,1) (by simp)) (fun cs hcs=>decl_mk cs hcs)
   cases e0;subst e1;cases e2
   exact⟨⟨s,l1,fs⟩,rfl,trivial⟩
theorem decl_tr (cs:List PV) (h:TP Tryz.prog 57 cs):∃f:LTr,PV.agg cs=elTr f∧True:=by
 obtain⟨hl,hf⟩:=tp_struct (n:=2) (l:=[(0,9,1),(1,27,1)]) (by kernel_rfl) h
 match cs,hl with
 | [a0,a1],_=>
   obtain⟨s,e0,_⟩:=tp_str (by kernel_rfl) (hf (0,9,1) (by simp))
   obtain⟨fs,e2,_⟩:=tp_list (e:=70) (c:=15) (b:=272) (enc:=elFu) (Q:=fun f=>SH.rgE f.body) (by kernel_rfl) (hf (1,27,1) (by simp)) (fun cs hcs=>decl_fu cs hcs)
   cases e0;cases e2
   exact⟨⟨s,fs⟩,rfl,trivial⟩
theorem decl_ac (cs:List PV) (h:TP Tryz.prog 73 cs):∃f:LAc,PV.agg cs=elAc f∧SH.rgE f.body:=by
 obtain⟨hl,hf⟩:=tp_struct (n:=14) (l:=[(0,9,1),(1,51,1),(2,62,1),(3,64,3),(6,68,8)]) (by kernel_rfl) h
 match cs,hl with
 | [a0,a1,a3,b1,b2,b3,c1,c2,c3,c4,c5,c6,c7,c8],_=>
   obtain⟨s,e0,_⟩:=tp_str (by kernel_rfl) (hf (0,9,1) (by simp))
   obtain⟨l1,e1⟩:=decl_ss (hf (1,51,1) (by simp))
   obtain⟨l3,e3⟩:=decl_ts (hf (2,62,1) (by simp))
   obtain⟨t,e4,_⟩:=dec_ty _ [b1,b2,b3] (Nat.lt_succ_self _) (hf (3,64,3) (by simp))
   obtain⟨e,e5,re⟩:=dec_ex _ [c1,c2,c3,c4,c5,c6,c7,c8] (Nat.lt_succ_self _) (hf (6,68,8) (by simp))
   cases e0;subst e1;subst e3
   refine⟨⟨s,l1,l3,t,e⟩,?_,re⟩
   rw[elAc,←e4,←e5];rfl
theorem decl_pg (cs:List PV) (h:TP Tryz.prog 30 cs):∃f:LPg,PV.agg cs=elPg f∧SX.rgPg f:=by
 obtain⟨hl,hf⟩:=tp_struct (n:=8) (l:=[(0,9,1),(1,3,1),(2,23,1),(3,24,1),(4,25,1),(5,26,1),(6,27,1),(7,28,1)]) (by kernel_rfl) h
 match cs,hl with
 | [a0,a1,a2,a3,a4,a5,a6,a7],_=>
   obtain⟨s,e0,_⟩:=tp_str (by kernel_rfl) (hf (0,9,1) (by simp))
   obtain⟨n,e1,_⟩:=tp_int (k:=.i64) (by kernel_rfl) (hf (1,3,1) (by simp))
   obtain⟨l2,e2,_⟩:=tp_list (e:=49) (c:=3) (b:=32) (enc:=elUse) (Q:=fun _=>True) (by kernel_rfl) (hf (2,23,1) (by simp)) (fun cs hcs=>decl_use cs hcs)
   obtain⟨l3,e3,_⟩:=tp_list (e:=54) (c:=3) (b:=64) (enc:=elDt) (Q:=fun _=>True) (by kernel_rfl) (hf (3,24,1) (by simp)) (fun cs hcs=>decl_dt cs hcs)
   obtain⟨l4,e4,_⟩:=tp_list (e:=57) (c:=2) (b:=40) (enc:=elTr) (Q:=fun _=>True) (by kernel_rfl) (hf (4,25,1) (by simp)) (fun cs hcs=>decl_tr cs hcs)
   obtain⟨l5,e5,_,q5⟩:=tp_list (e:=60) (c:=3) (b:=56) (enc:=elIm) (Q:=fun x=>∀g∈x.funcs,SH.rgE g.body) (by kernel_rfl) (hf (5,26,1) (by simp)) (fun cs hcs=>decl_im cs hcs)
   obtain⟨l6,e6,_,q6⟩:=tp_list (e:=70) (c:=15) (b:=272) (enc:=elFu) (Q:=fun f=>SH.rgE f.body) (by kernel_rfl) (hf (6,27,1) (by simp)) (fun cs hcs=>decl_fu cs hcs)
   obtain⟨l7,e7,_,q7⟩:=tp_list (e:=73) (c:=14) (b:=248) (enc:=elAc) (Q:=fun f=>SH.rgE f.body) (by kernel_rfl) (hf (7,28,1) (by simp)) (fun cs hcs=>decl_ac cs hcs)
   cases e0;cases e1;cases e2;cases e3;cases e4;cases e5;cases e6;cases e7
   exact⟨⟨s,n,l2,l3,l4,l5,l6,l7⟩,rfl,q5,q6,q7⟩
theorem pow_name:Tryz.prog.globalNamed "internal/strconv.uint64pow10"=some 0:=by kernel_rfl
theorem pow_reads:(Rows.laid_internal_strconv_uint64pow10:DataW Unit)=Lib.tabData .u64 Lib.pow10Tab:=by kernel_rfl
theorem pow_met {l:List (String×DataW Unit)} {W:World} (h:laidMetH Tryz.prog l W) (hm:("internal/strconv.uint64pow10",(Rows.laid_internal_strconv_uint64pow10:DataW Unit))∈l):∃(E:TypeId) (fr:Nat×Nat),W.heap[0]?=some (.cells SW.powL.toArray E fr):=by
 have h2:=Lib.laidMet.reads (laidMetH_iff.1 h).1 (n:= "internal/strconv.uint64pow10") (d:=Rows.laid_internal_strconv_uint64pow10) (List.mem_filter.2 ⟨hm,by kernel_rfl⟩)
 rw[pow_reads]at h2
 exact tab_block pow_name (tabIs_of_reads (t:=241) (e:=216) (n:=20) pow_name (by kernel_rfl) (by kernel_rfl) (by kernel_rfl) (by kernel_rfl) (by kernel_rfl) h2)
end Go.Proofs.YtmakmpapchiioaaGreatDoor
