/- Contracts, and the law, for every input. No conditions. -/
import Derived.Test.YtldppkdekklpkaaGreatDoorTKD
import Derived.Lib.LaidU8
import Derived.Shelf.Strings.SplitShaped
import Derived.Shelf.Strconv.Itoa3
import Derived.Lib.ItoaLen
import Derived.Test.YtldppkdekklpkaaGreatDoorChecked
import Derived.Test.YtldppkdekklpkaaGreatDoorRows
import Derived.Test.YtldppkdekklpkaaGreatDoorCards
import Derived.Test.YtldppkdekklpkaaGreatDoorTie
import Derived.ProofKit
import Derived.SizedLaws
import Derived.ChangeBears2
import Derived.OpenShut
import Derived.Deep.DeepHandedRow
import Derived.Lay
import Derived.LaidSub
import Derived.Deep.DeepWitnessRowRef
import Derived.Deep.CondSized
set_option linter.all false
section
open Go Go.AM
set_option maxRecDepth 100000
namespace TR
structure LUse where
 name:ByteArray
 low:Int
 high:Int
structure LMk where
 name:ByteArray
 ts:List Ty
structure LDt where
 name:ByteArray
 ps:List ByteArray
 makes:List LMk
structure LFu where
 name:ByteArray
 ps:List ByteArray
 ns:List ByteArray
 ts:List Ty
 out:Ty
 body:Ex
structure LTr where
 name:ByteArray
 funcs:List LFu
structure LIm where
 tr:ByteArray
 fo:ByteArray
 funcs:List LFu
structure LAc where
 name:ByteArray
 ns:List ByteArray
 ts:List Ty
 msg:Ty
 body:Ex
structure LPg where
 name:ByteArray
 ver:Int
 uses:List LUse
 datas:List LDt
 traits:List LTr
 impls:List LIm
 funcs:List LFu
 actors:List LAc
def elUse (u:LUse):PV:=.agg [.s u.name,.i .i64 u.low,.i .i64 u.high]
def elMk (m:LMk):PV:=.agg [.s m.name,.sl 3 (eTs m.ts)]
def elDt (m:LDt):PV:=.agg [.s m.name,.sl 1 (m.ps.map eStr),.sl 2 (m.makes.map elMk)]
def elFu (f:LFu):PV:=.agg (.s f.name::.sl 1 (f.ps.map eStr)::.sl 1 (f.ns.map eStr)::.sl 3 (eTs f.ts)::((eT f.out).cells++(eE f.body).cells))
def elTr (m:LTr):PV:=.agg [.s m.name,.sl 15 (m.funcs.map elFu)]
def elIm (m:LIm):PV:=.agg [.s m.tr,.s m.fo,.sl 15 (m.funcs.map elFu)]
def elAc (f:LAc):PV:=.agg (.s f.name::.sl 1 (f.ns.map eStr)::.sl 3 (eTs f.ts)::((eT f.msg).cells++(eE f.body).cells))
def elPg (p:LPg):PV:=.agg [.s p.name,.i .i64 p.ver,.sl 3 (p.uses.map elUse),.sl 3 (p.datas.map elDt),.sl 2 (p.traits.map elTr),.sl 3 (p.impls.map elIm),.sl 15 (p.funcs.map elFu),.sl 14 (p.actors.map elAc)]
def wlFu (f:LFu):Nat:=PV.wt (elFu f)
theorem wlFu_eq (f:LFu):wlFu f=f.name.size+1+(PV.wts (f.ps.map eStr)+1)+(PV.wts (f.ns.map eStr)+1)+(PV.wts (eTs f.ts)+1)+wT f.out+wE f.body:=by
 simp only[wlFu,elFu,PV.wt,PV.wts,PV.wts_append,wt_cells];unfold wT wE;omega
theorem wlDt_eq (m:LDt):PV.wt (elDt m)=m.name.size+1+(PV.wts (m.ps.map eStr)+1)+(PV.wts (m.makes.map elMk)+1):=by
 simp only[elDt,PV.wt,PV.wts]<;>try omega
theorem wlTr_eq (m:LTr):PV.wt (elTr m)=m.name.size+1+(PV.wts (m.funcs.map elFu)+1):=by
 simp only[elTr,PV.wt,PV.wts]<;>try omega
theorem wlIm_eq (m:LIm):PV.wt (elIm m)=m.tr.size+1+(m.fo.size+1)+(PV.wts (m.funcs.map elFu)+1):=by
 simp only[elIm,PV.wt,PV.wts]<;>try omega
def wlPg (p:LPg):Nat:=PV.wt (elPg p)
theorem wlPg_eq (p:LPg):wlPg p=p.name.size+1+1+(PV.wts (p.uses.map elUse)+1)+(PV.wts (p.datas.map elDt)+1)+(PV.wts (p.traits.map elTr)+1)+(PV.wts (p.impls.map elIm)+1)+(PV.wts (p.funcs.map elFu)+1)+(PV.wts (p.actors.map elAc)+1):=by
 simp only[wlPg,elPg,PV.wt,PV.wts]<;>try omega
end TR
end
section
namespace Go.AM
open Go.ChangeShapes Go.WideShapes Go.ChangeAt Go.RowKit
def lawCk (P:Program) (ps:List Nat):Bool:=
 let l:=plainTypes P 1000 ps []
 plainB P l&&ps.all (fun t=>l.contains t&&P.readableRec t&&Nat.blt t P.types.size)&&laidOutB P
end Go.AM
end
section
namespace Go.AM
open Go.ChangeShapes Go.WideShapes Go.ChangeAt Go.RowKit
def globH (gb:Nat) (vs:List Value):Heap:=[(1000000000,.glob gb vs)]
theorem glob_hrel {g:Gh} {w:World} {gb:Nat} {vs:List Value} (hno:g.own gb=none) (h:∃(E:TypeId) (fr:Nat×Nat),w.heap[gb]?=some (.cells vs.toArray E fr)):HRel g w (globH gb vs):=by
 refine⟨fun l o ho=>?_,fun l o ho hs=>?_,fun l o ho hs=>?_⟩
 all_goals
  unfold globH at ho
  by_cases hl:1000000000=l
  ·subst hl
   rw[hget_self]at ho;cases ho
   first|exact .glob gb vs ⟨hno,h⟩|exact absurd hs (by decide)|cases hs
  ·rw[hget_ne hl]at ho;cases ho
end Go.AM
end
section
namespace Go.AM
open Go.ChangeShapes Go.WideShapes Go.ChangeAt Go.RowKit
theorem law_contractG {H:Type} {enc:TypeId×Value→H} {P:Program} {F:Nat} {fn:Func} {s:ChangeSpec} {fresh handsOn again:Bool} {tb:Nat} {l:List Nat} {gh:Heap} (hvars:s.vars=[]) (hl:plainB P l=true) (hpl:∀t∈fn.params.toList,t∈l)
 (hlaid:laidOutB P=true) (hread:∀t∈fn.params.toList,P.readableRec t=true∧t<P.types.size) (hres:fn.resultTypes=#[tb]) (hb:P.underlying tb=some .bool)
 (hspec:∀ds:List (DataW H),ds.length=fn.params.toList.length→(s.fn H ds).results=[.lit (.bool true)]∧(s.fn H ds).args=ds∧(s.fn H ds).vars=[])
 (W:World) (base:Nat) (args:Array Value) (ds gs:List (DataW H)) (before:List MemPlace)
 (hval:∀(j:Nat) t v,fn.params[j]?=some t→args[j]?=some v→Value.okWide P W .any base t v)
 (hW:DataW.Whole enc P fn.params.toList s.vars false W args.toList ds gs before) (hwt:∀x∈DataW.weightsEach P fn.params.toList ds,x≤reachBytes)
 (hgb:HRel (allG W) W gh)
 (hpure:∀xss:List (List PV),TPs P fn.params.toList xss→wtss xss≤bulkAll ds→AMem P F (mkArgs P fn.params.toList xss) gh (.p (.b true)) gh):
 Calls P F args W fun e W'=>∃v,e=.returned v∧s.post enc P fn false fresh handsOn again W args v W':=by
 have hW':=hW;obtain⟨p,q,hA,hV,hps,hfz,hnd⟩:=hW;rw[hvars]at hV
 have hgs:gs=[]∧q=[]:=by
  cases gs with
  |nil=>exact⟨rfl,hV⟩
  |cons x r=>simp[DataW.TrodVars]at hV
 obtain⟨rfl,rfl⟩:=hgs;simp only[List.append_nil]at hps;subst hps;obtain⟨xss,k1,k2,k3,k4⟩:=args_rel hl fn.params.toList args.toList ds before hpl hA (fun j t v a b=>hval j t v (by simpa using a) (by simpa using b)) hwt
 have hdl:ds.length=fn.params.toList.length:=by
  clear hval hW' hwt hpure k1 k2 k3 k4 hfz hnd hspec hpl hread;generalize fn.params.toList=ts at hA;generalize args.toList=vs at hA
  induction ts generalizing vs ds before with
  |nil=>
   cases vs<;>cases ds<;>simp[DataW.TrodAll]at hA ⊢
  |cons t ts ih=>
   cases vs with
   |nil=>simp[DataW.TrodAll]at hA
   |cons v vs=>
    cases ds with
    |nil=>simp[DataW.TrodAll]at hA
    |cons d ds=>
     obtain⟨p,q,_,h2,_⟩:=hA;simp[ih ds q vs h2]
 obtain⟨s1,s2,s3⟩:=hspec ds hdl;have hcall:=(hpure xss k1 k4).2 (allG W) W args.toList hgb (fun _ _ h=>by cases h) k2 (fun j v x h1 h2=>(k3 j v x h1 h2).keep (fun _ _ _ h=>h) (fun _ h=>h.elim) (fun _ _ _ h=>h.elim) (fun _ _ h=>by cases h));simp only[Array.toArray_toList]at hcall;refine hcall.mono ?_;rintro e W' ⟨v,g',rfl,hv,_,_,hE⟩;have hg:=hE.grown (fun _=>rfl);cases hv.bool;refine⟨_,rfl,post_of_same2 (pa:=before) (pv:=[]) hW' (fun bb sp hd=>?_) (fun sp hsp=>?_) (fun sp _=>?_) (by simp) (World.keptBut_mono (fun _ f=>f.elim) hg.1) hg.2 (ok_one hres rfl (okWide_bool_mk hb true))⟩
 ·rw[List.append_nil,s1,hres]
  exact trodAll_cons_mk (shut_bool hb true) trodAll_mk0
 ·rw[List.append_nil,s2]
  refine TrodAll_stays hlaid _ _ _ _ hread hA (fun x hx=>?_) hsp;have hlt:=hW'.lt x hx
  cases x with
  |cell b off=>
   have:W'.heap[b]?=W.heap[b]?:=(hE.kept b hlt rfl).1;simp only[World.sameAt,World.cell?,this]
  |map b=>exact(hE.kept b hlt rfl).1
 ·rw[List.append_nil,s3,hvars];rfl
theorem law_uptoG {H:Type} {enc:TypeId×Value→H} {P:Program} {F:Nat} {fn:Func} {s:ChangeSpec} {fresh handsOn again:Bool} {tb:Nat} {gh:Heap} (B:Nat) (ps:List Nat) (hvars:s.vars=[]) (hp:fn.params.toList=ps) (hck:lawCk P ps=true)
 (hres:fn.resultTypes=#[tb]) (hb:P.underlying tb=some .bool)
 (hspec:∀ds:List (DataW H),ds.length=ps.length→(s.fn H ds).results=[.lit (.bool true)]∧(s.fn H ds).args=ds∧(s.fn H ds).vars=[])
 (W:World) (base:Nat) (args:Array Value) (ds gs:List (DataW H)) (before:List MemPlace)
 (hval:∀(j:Nat) t v,fn.params[j]?=some t→args[j]?=some v→Value.okWide P W .any base t v)
 (hW:DataW.Whole enc P fn.params.toList s.vars false W args.toList ds gs before) {vs:List Nat} (hsz:(DataW.weightsEach P (fn.params.toList++vs) (ds++gs)).all (·≤reachBytes)=true) (hvs:vs=[]) (hB:bulkAll (ds++gs)≤B)
 (hgb:HRel (allG W) W gh)
 (hpure:∀xss:List (List PV),TPs P ps xss→wtss xss≤B→AMem P F (mkArgs P ps xss) gh (.p (.b true)) gh):
 Calls P F args W fun e W'=>∃v,e=.returned v∧s.post enc P fn false fresh handsOn again W args v W':=by
 simp only[lawCk,Bool.and_eq_true,List.all_eq_true,List.contains_iff_mem]at hck;obtain⟨⟨h1,h2⟩,h3⟩:=hck
 have hg:gs=[]:=by
  obtain⟨p,q,_,hV,_⟩:=hW;rw[hvars]at hV
  cases gs with
  |nil=>rfl
  |cons x r=>simp[DataW.TrodVars]at hV
 subst hg;subst hvs;simp only[List.append_nil]at hsz hB;refine law_contractG (l:=plainTypes P 1000 ps []) hvars h1 (by rw[hp];exact fun t ht=>(h2 t ht).1.1) h3 (by rw[hp];exact fun t ht=>⟨(h2 t ht).1.2,by have:=(h2 t ht).2;rwa [Nat.blt_eq]at this⟩) hres hb (by rw[hp];exact hspec) W base args ds [] before hval hW ?_ hgb (by rw[hp];exact fun xss h h'=>hpure xss h (by omega));intro x hx;exact of_decide_eq_true (List.all_eq_true.1 hsz x hx)
theorem ext_grown {g:Gh} {w w':World} (hs:w.heap.size≤w'.heap.size) (hos:w'.os=w.os) (hout:w'.output=w.output) (hblk:∀b,b<w.heap.size→w'.heap[b]?=w.heap[b]?):Ext g w g w':=by
 refine⟨hs,hos,hout,fun b o v hv=>?_,fun b hb ho=>⟨hblk b hb,rfl,ho⟩,SgLe.of rfl rfl,fun a ha=>?_,fun _ _=>rfl,fun b cs E hb=>⟨cs,E,?_,rfl⟩⟩
 ·simp only[imm_eq]at hv ⊢
  split at hv
  ·rename_i hp
   rw[if_pos hp]
   have hlt:b<w.heap.size:=by
    unfold World.cell? at hv;split at hv
    ·rename_i hb
     exact(Array.getElem?_eq_some_iff.1 hb).1
    ·cases hv
   unfold World.cell? at hv ⊢;rw[hblk b hlt];exact hv
  ·cases hv
 ·unfold World.frozen?
  rw[hblk _ ha]
 ·rw[hblk b (Array.getElem?_eq_some_iff.1 hb).1];exact hb
end Go.AM
end
section
open Go Go.Proofs
namespace Go.AM
theorem iface_reads {P:Program} {W:World} {name:String} {d:DataW Unit} {g:Nat} {t:TypeId} (hg:P.globalNamed name=some g) (hty:(P.globals[g]?).map (·.type)=some t) (ht:(match P.underlying t with|some (.interface _)=>true|_=>false)=true)
 (h:Lib.VarReads P W name d):∃ev:Value,(ev=.nilIface∨∃te pe,ev=.iface te pe)∧∃(E:TypeId) (fr:Nat×Nat),W.heap[g]?=some (.cells [ev].toArray E fr):=by
 obtain⟨g',t',cs,fuel,p,hg',ht',hvar,hd⟩:=h;obtain rfl:=Option.some.inj (hg.symm.trans hg');obtain rfl:=Option.some.inj (hty.symm.trans ht')
 have hcs:∃ev:Value,(ev=.nilIface∨∃te pe,ev=.iface te pe)∧cs=[ev].toArray:=by
  cases fuel with
  |zero=>simp[DataW.trod]at hd
  |succ fuel=>
   split at ht
   ·rename_i x hx
    simp only[DataW.trod,hx]at hd;split at hd
    all_goals first|(rename_i h1 _;cases h1;done)|(rename_i h1;cases h1;done)|(cases hd;done)|skip
    ·rename_i _ h2
     exact⟨.nilIface,.inl rfl,by rw[←h2]⟩
    ·rename_i _ h2
     exact⟨_,.inr ⟨_,_,rfl⟩,by rw[←h2]⟩
   ·cases ht
 obtain⟨ev,h1,h2⟩:=hcs;refine⟨ev,h1,?_⟩;unfold World.var? at hvar;rw[hg]at hvar;simp only[Option.bind_some]at hvar;split at hvar
 ·rename_i cs' E fr hb
  simp only[Option.some.injEq]at hvar;exact⟨E,fr,by rw[hb,hvar,h2]⟩
 ·cases hvar
end Go.AM
end
section
open Go Go.AM Go.Proofs
set_option maxRecDepth 100000
namespace Go.Proofs.YtldppkdekklpkaaGreatDoor
theorem Tryz.own:ownKnob Tryz.prog.godebug=none:=by kernel_rfl
theorem Tryz.errRange_name:Tryz.prog.globalNamed "strconv.ErrRange"=some 1:=by kernel_rfl
theorem errR_met {l:List (String×DataW Unit)} {W:World} (h:laidMetH Tryz.prog l W) (hm:("strconv.ErrRange",(Rows.laid_strconv_ErrRange:DataW Unit))∈l):∃ev:Value,(ev=.nilIface∨∃te pe,ev=.iface te pe)∧∃(E:TypeId) (fr:Nat×Nat),W.heap[1]?=some (.cells [ev].toArray E fr):=by
 have h1:=Lib.laidMet.reads (laidMetH_iff.1 h).1 (n:= "strconv.ErrRange") (d:=Rows.laid_strconv_ErrRange) (List.mem_filter.2 ⟨hm,by kernel_rfl⟩);exact iface_reads (t:=204) Tryz.errRange_name (by kernel_rfl) (by kernel_rfl) h1
end Go.Proofs.YtldppkdekklpkaaGreatDoor
end
section
open Go Go.AM Go.Proofs TR
set_option maxRecDepth 100000
namespace Go.Proofs.YtldppkdekklpkaaGreatDoor
mutual
theorem bulk_eq {H:Type}:∀(d:DataW H),Rows.uptoBulk d=bulkW d
 |.lit (.string _)=>by simp[Rows.uptoBulk,bulkW]
 |.lit (.bool _)=>by simp[Rows.uptoBulk,bulkW]
 |.lit (.int _ _)=>by simp[Rows.uptoBulk,bulkW]
 |.lit (.float _ _)=>by simp[Rows.uptoBulk,bulkW]
 |.lit .nil=>by simp[Rows.uptoBulk,bulkW]
 |.nil=>by simp[Rows.uptoBulk,bulkW]
 |.ptr d=>by simp[Rows.uptoBulk,bulkW,bulk_eq d]
 |.slice a b=>by simp[Rows.uptoBulk,bulkW,bulkAll_eq a,bulkAll_eq b]
 |.agg a=>by simp[Rows.uptoBulk,bulkW,bulkAll_eq a]
 |.iface _ d=>by simp[Rows.uptoBulk,bulkW,bulk_eq d]
 |.map es=>by simp[Rows.uptoBulk,bulkW,bulkEntries_eq es]
 |.held _=>by simp[Rows.uptoBulk,bulkW]
theorem bulkAll_eq {H:Type}:∀(d:List (DataW H)),Rows.uptoBulkAll d=bulkAll d
 | []=>by simp[Rows.uptoBulkAll,bulkAll]
 |x::r=>by simp[Rows.uptoBulkAll,bulkAll,bulk_eq x,bulkAll_eq r]
theorem bulkEntries_eq {H:Type}:∀(d:List (Lit×DataW H)),Rows.uptoBulkEntries d=bulkEntries d
 | []=>by simp[Rows.uptoBulkEntries,bulkEntries]
 |x::r=>by simp[Rows.uptoBulkEntries,bulkEntries,bulkEntry_eq x,bulkEntries_eq r]
theorem bulkEntry_eq {H:Type}:∀(d:Lit×DataW H),Rows.uptoBulkEntry d=bulkEntry d
 |(.string _,d)=>by simp[Rows.uptoBulkEntry,bulkEntry,bulk_eq d]
 |(.bool _,d)=>by simp[Rows.uptoBulkEntry,bulkEntry,bulk_eq d]
 |(.int _ _,d)=>by simp[Rows.uptoBulkEntry,bulkEntry,bulk_eq d]
 |(.float _ _,d)=>by simp[Rows.uptoBulkEntry,bulkEntry,bulk_eq d]
 |(.nil,d)=>by simp[Rows.uptoBulkEntry,bulkEntry,bulk_eq d]
end
theorem small_of {H:Type} {ds:List (DataW H)} (h:Rows.uptoSmall H ds=true):bulkAll ds≤1048576:=by
 rw[←bulkAll_eq];exact of_decide_eq_true h
theorem dec_str (y:PV) (h:TP Tryz.prog 9 [y]):∃d,y=eStr d∧True:=by
 obtain⟨s,e,_⟩:=tp_str (by kernel_rfl) h;cases e;exact⟨s,rfl,trivial⟩
theorem dec_ty:∀(n:Nat) (cs:List PV),SizeOf.sizeOf cs<n→TP Tryz.prog 32 cs→∃t,PV.agg cs=eT t∧True
 |0,cs,hn,_=>by omega
 |n+1,cs,hn,h=>by
  obtain⟨hl,hf⟩:=tp_struct (n:=3) (l:=[(0,3,1),(1,9,1),(2,30,1)]) (by kernel_rfl) h
  match cs,hl with
  | [a,b,c],_=>
    obtain⟨k,e1,_⟩:=tp_int (k:=.i64) (by kernel_rfl) (hf (0,3,1) (by simp));obtain⟨s,e2,_⟩:=tp_str (by kernel_rfl) (hf (1,9,1) (by simp));obtain⟨xs,e3,hb,hc,ha⟩:=tp_slice (e:=32) (c:=3) (b:=48) (agg:=true) (by kernel_rfl) (hf (2,30,1) (by simp))
    cases e1;cases e2;cases e3
    obtain⟨l,rfl,_⟩:=list_map (enc:=eT) (Q:=fun _=>True) xs (fun y hy=>by
     obtain⟨ys,rfl⟩:=(ha y hy).1 rfl;have h1:=List.sizeOf_lt_of_mem hy;exact dec_ty n ys (by simp at hn h1;omega) (hc _ hy))
    exact⟨.mk k s l,by rw[eT,eTs_map],trivial⟩
theorem dec_pat:∀(n:Nat) (cs:List PV),SizeOf.sizeOf cs<n→TP Tryz.prog 130 cs→∃t,PV.agg cs=eP t∧True
 |0,cs,hn,_=>by omega
 |n+1,cs,hn,h=>by
  obtain⟨hl,hf⟩:=tp_struct (n:=4) (l:=[(0,3,1),(1,3,1),(2,9,1),(3,127,1)]) (by kernel_rfl) h
  match cs,hl with
  | [a,b,c,d],_=>
    obtain⟨k,e1,_⟩:=tp_int (k:=.i64) (by kernel_rfl) (hf (0,3,1) (by simp));obtain⟨m,e4,wm⟩:=tp_int (k:=.i64) (by kernel_rfl) (hf (1,3,1) (by simp));obtain⟨s,e2,_⟩:=tp_str (by kernel_rfl) (hf (2,9,1) (by simp));obtain⟨xs,e3,hb,hc,ha⟩:=tp_slice (e:=130) (c:=4) (b:=56) (agg:=true) (by kernel_rfl) (hf (3,127,1) (by simp))
    cases e1;cases e2;cases e3;cases e4
    obtain⟨l,rfl,_⟩:=list_map (enc:=eP) (Q:=fun _=>True) xs (fun y hy=>by
     obtain⟨ys,rfl⟩:=(ha y hy).1 rfl;have h1:=List.sizeOf_lt_of_mem hy;exact dec_pat n ys (by simp at hn h1;omega) (hc _ hy))
    exact⟨.mk k m s l,by rw[eP,ePs_map],trivial⟩
theorem sz_append (a b:List PV):SizeOf.sizeOf b≤SizeOf.sizeOf (a++b):=by
 induction a with
 |nil=>simp
 |cons x r ih=>simp;omega
theorem dec_ex:∀(n:Nat) (cs:List PV),SizeOf.sizeOf cs<n→TP Tryz.prog 62 cs→∃t,PV.agg cs=eE t∧True
 |0,cs,hn,_=>by omega
 |n+1,cs,hn,h=>by
  obtain⟨hl,hf⟩:=tp_struct (n:=8) (l:=[(0,3,1),(1,3,1),(2,9,1),(3,58,1),(4,30,1),(5,59,1),(6,60,1),(7,3,1)]) (by kernel_rfl) h
  match cs,hl with
  | [a0,a1,a2,a3,a4,a5,a6,a7],_=>
    obtain⟨k,e0,_⟩:=tp_int (k:=.i64) (by kernel_rfl) (hf (0,3,1) (by simp));obtain⟨m,e1,_⟩:=tp_int (k:=.i64) (by kernel_rfl) (hf (1,3,1) (by simp));obtain⟨s,e2,_⟩:=tp_str (by kernel_rfl) (hf (2,9,1) (by simp));obtain⟨ns,e3,_⟩:=tp_list1 (e:=9) (c:=1) (b:=16) (by kernel_rfl) (hf (3,58,1) (by simp)) dec_str;obtain⟨ts,e4,_⟩:=tp_list (e:=32) (c:=3) (b:=48) (enc:=eT) (Q:=fun _=>True) (by kernel_rfl) (hf (4,30,1) (by simp)) (fun cs hcs=>dec_ty _ cs (Nat.lt_succ_self _) hcs);obtain⟨xs,e5,_,hc5,ha5⟩:=tp_slice (e:=62) (c:=8) (b:=136) (agg:=true) (by kernel_rfl) (hf (5,59,1) (by simp));obtain⟨ms,e6,_,hc6,ha6⟩:=tp_slice (e:=183) (c:=12) (b:=192) (agg:=true) (by kernel_rfl) (hf (6,60,1) (by simp));obtain⟨p,e7,_⟩:=tp_int (k:=.i64) (by kernel_rfl) (hf (7,3,1) (by simp))
    cases e0;cases e1;cases e2;cases e3;cases e4;cases e5;cases e6;cases e7
    obtain⟨l5,rfl,_⟩:=list_map (enc:=eE) (Q:=fun _=>True) xs (fun y hy=>by
     obtain⟨ys,rfl⟩:=(ha5 y hy).1 rfl;have h1:=List.sizeOf_lt_of_mem hy;exact dec_ex n ys (by simp at hn h1;omega) (hc5 _ hy))
    obtain⟨l6,rfl,_⟩:=list_map (enc:=eA) (Q:=fun _=>True) ms (fun y hy=>by
     obtain⟨ys,rfl⟩:=(ha6 y hy).1 rfl;have h1:=List.sizeOf_lt_of_mem hy;obtain⟨hl6,hf6⟩:=tp_struct (n:=12) (l:=[(0,130,4),(4,62,8)]) (by kernel_rfl) (hc6 _ hy);simp only[PV.cells]at hl6 hf6;obtain⟨q1,w1,_⟩:=dec_pat _ _ (Nat.lt_succ_self _) (hf6 (0,130,4) (by simp));have hd:(ys.drop 4).take 8=ys.drop 4:=List.take_of_length_le (by simp;omega);have hs:=sz_append (ys.take 4) (ys.drop 4);rw[List.take_append_drop]at hs;have h2:=hf6 (4,62,8) (by simp);simp only[hd]at h2;obtain⟨q2,w2,_⟩:=dec_ex n (ys.drop 4) (by simp at hn h1;omega) h2;refine⟨.mk q1 q2,?_,trivial⟩;rw[eA,←w1,←w2];simp only[PV.cells,List.drop_zero,List.take_append_drop])
    exact⟨.mk k m s ns ts l5 l6 p,by rw[eE,eTs_map,eEs_map,eAs_map],trivial⟩
theorem decl_ss {x:PV} (h:TP Tryz.prog 58 [x]):∃l:List ByteArray,x=.sl 1 (l.map eStr):=by
 obtain⟨ns,e3,_⟩:=tp_list1 (e:=9) (c:=1) (b:=16) (by kernel_rfl) h dec_str;cases e3;exact⟨ns,rfl⟩
theorem decl_ts {x:PV} (h:TP Tryz.prog 30 [x]):∃l:List Ty,x=.sl 3 (eTs l):=by
 obtain⟨ts,e4,_⟩:=tp_list (e:=32) (c:=3) (b:=48) (enc:=eT) (Q:=fun _=>True) (by kernel_rfl) h (fun cs hcs=>dec_ty _ cs (Nat.lt_succ_self _) hcs)
 cases e4;exact⟨ts,by rw[eTs_map]⟩
theorem decl_use (cs:List PV) (h:TP Tryz.prog 87 cs):∃f:LUse,PV.agg cs=elUse f∧True:=by
 obtain⟨hl,hf⟩:=tp_struct (n:=3) (l:=[(0,9,1),(1,3,1),(2,3,1)]) (by kernel_rfl) h
 match cs,hl with
 | [a0,a1,a2],_=>
   obtain⟨s,e0,_⟩:=tp_str (by kernel_rfl) (hf (0,9,1) (by simp));obtain⟨k,e1,_⟩:=tp_int (k:=.i64) (by kernel_rfl) (hf (1,3,1) (by simp));obtain⟨m,e2,_⟩:=tp_int (k:=.i64) (by kernel_rfl) (hf (2,3,1) (by simp))
   cases e0;cases e1;cases e2
   exact⟨⟨s,k,m⟩,rfl,trivial⟩
theorem decl_fu (cs:List PV) (h:TP Tryz.prog 64 cs):∃f:LFu,PV.agg cs=elFu f∧True:=by
 obtain⟨hl,hf⟩:=tp_struct (n:=15) (l:=[(0,9,1),(1,58,1),(2,58,1),(3,30,1),(4,32,3),(7,62,8)]) (by kernel_rfl) h
 match cs,hl with
 | [a0,a1,a2,a3,b1,b2,b3,c1,c2,c3,c4,c5,c6,c7,c8],_=>
   obtain⟨s,e0,_⟩:=tp_str (by kernel_rfl) (hf (0,9,1) (by simp));obtain⟨l1,e1⟩:=decl_ss (hf (1,58,1) (by simp));obtain⟨l2,e2⟩:=decl_ss (hf (2,58,1) (by simp));obtain⟨l3,e3⟩:=decl_ts (hf (3,30,1) (by simp));obtain⟨t,e4,_⟩:=dec_ty _ [b1,b2,b3] (Nat.lt_succ_self _) (hf (4,32,3) (by simp));obtain⟨e,e5,_⟩:=dec_ex _ [c1,c2,c3,c4,c5,c6,c7,c8] (Nat.lt_succ_self _) (hf (7,62,8) (by simp))
   cases e0;subst e1;subst e2;subst e3
   refine⟨⟨s,l1,l2,l3,t,e⟩,?_,trivial⟩;rw[elFu,←e4,←e5];rfl
theorem decl_im (cs:List PV) (h:TP Tryz.prog 41 cs):∃f:LIm,PV.agg cs=elIm f∧True:=by
 obtain⟨hl,hf⟩:=tp_struct (n:=3) (l:=[(0,9,1),(1,9,1),(2,26,1)]) (by kernel_rfl) h
 match cs,hl with
 | [a0,a1,a2],_=>
   obtain⟨s,e0,_⟩:=tp_str (by kernel_rfl) (hf (0,9,1) (by simp));obtain⟨u,e1,_⟩:=tp_str (by kernel_rfl) (hf (1,9,1) (by simp));obtain⟨fs,e2,_⟩:=tp_list (e:=64) (c:=15) (b:=272) (enc:=elFu) (Q:=fun _=>True) (by kernel_rfl) (hf (2,26,1) (by simp)) (fun cs hcs=>decl_fu cs hcs)
   cases e0;cases e1;cases e2
   exact⟨⟨s,u,fs⟩,rfl,trivial⟩
theorem decl_mk (cs:List PV) (h:TP Tryz.prog 110 cs):∃f:LMk,PV.agg cs=elMk f∧True:=by
 obtain⟨hl,hf⟩:=tp_struct (n:=2) (l:=[(0,9,1),(1,30,1)]) (by kernel_rfl) h
 match cs,hl with
 | [a0,a1],_=>
   obtain⟨s,e0,_⟩:=tp_str (by kernel_rfl) (hf (0,9,1) (by simp));obtain⟨l3,e3⟩:=decl_ts (hf (1,30,1) (by simp))
   cases e0;subst e3
   exact⟨⟨s,l3⟩,rfl,trivial⟩
theorem decl_dt (cs:List PV) (h:TP Tryz.prog 69 cs):∃f:LDt,PV.agg cs=elDt f∧True:=by
 obtain⟨hl,hf⟩:=tp_struct (n:=3) (l:=[(0,9,1),(1,58,1),(2,67,1)]) (by kernel_rfl) h
 match cs,hl with
 | [a0,a1,a2],_=>
   obtain⟨s,e0,_⟩:=tp_str (by kernel_rfl) (hf (0,9,1) (by simp));obtain⟨l1,e1⟩:=decl_ss (hf (1,58,1) (by simp));obtain⟨fs,e2,_⟩:=tp_list (e:=110) (c:=2) (b:=40) (enc:=elMk) (Q:=fun _=>True) (by kernel_rfl) (hf (2,67,1) (by simp)) (fun cs hcs=>decl_mk cs hcs)
   cases e0;subst e1;cases e2
   exact⟨⟨s,l1,fs⟩,rfl,trivial⟩
theorem decl_tr (cs:List PV) (h:TP Tryz.prog 37 cs):∃f:LTr,PV.agg cs=elTr f∧True:=by
 obtain⟨hl,hf⟩:=tp_struct (n:=2) (l:=[(0,9,1),(1,26,1)]) (by kernel_rfl) h
 match cs,hl with
 | [a0,a1],_=>
   obtain⟨s,e0,_⟩:=tp_str (by kernel_rfl) (hf (0,9,1) (by simp));obtain⟨fs,e2,_⟩:=tp_list (e:=64) (c:=15) (b:=272) (enc:=elFu) (Q:=fun _=>True) (by kernel_rfl) (hf (1,26,1) (by simp)) (fun cs hcs=>decl_fu cs hcs)
   cases e0;cases e2
   exact⟨⟨s,fs⟩,rfl,trivial⟩
theorem decl_ac (cs:List PV) (h:TP Tryz.prog 98 cs):∃f:LAc,PV.agg cs=elAc f∧True:=by
 obtain⟨hl,hf⟩:=tp_struct (n:=14) (l:=[(0,9,1),(1,58,1),(2,30,1),(3,32,3),(6,62,8)]) (by kernel_rfl) h
 match cs,hl with
 | [a0,a1,a3,b1,b2,b3,c1,c2,c3,c4,c5,c6,c7,c8],_=>
   obtain⟨s,e0,_⟩:=tp_str (by kernel_rfl) (hf (0,9,1) (by simp));obtain⟨l1,e1⟩:=decl_ss (hf (1,58,1) (by simp));obtain⟨l3,e3⟩:=decl_ts (hf (2,30,1) (by simp));obtain⟨t,e4,_⟩:=dec_ty _ [b1,b2,b3] (Nat.lt_succ_self _) (hf (3,32,3) (by simp));obtain⟨e,e5,_⟩:=dec_ex _ [c1,c2,c3,c4,c5,c6,c7,c8] (Nat.lt_succ_self _) (hf (6,62,8) (by simp))
   cases e0;subst e1;subst e3
   refine⟨⟨s,l1,l3,t,e⟩,?_,trivial⟩;rw[elAc,←e4,←e5];rfl
theorem decl_pg (cs:List PV) (h:TP Tryz.prog 29 cs):∃f:LPg,PV.agg cs=elPg f∧True:=by
 obtain⟨hl,hf⟩:=tp_struct (n:=8) (l:=[(0,9,1),(1,3,1),(2,22,1),(3,23,1),(4,24,1),(5,25,1),(6,26,1),(7,27,1)]) (by kernel_rfl) h
 match cs,hl with
 | [a0,a1,a2,a3,a4,a5,a6,a7],_=>
   obtain⟨s,e0,_⟩:=tp_str (by kernel_rfl) (hf (0,9,1) (by simp));obtain⟨n,e1,_⟩:=tp_int (k:=.i64) (by kernel_rfl) (hf (1,3,1) (by simp));obtain⟨l2,e2,_⟩:=tp_list (e:=87) (c:=3) (b:=32) (enc:=elUse) (Q:=fun _=>True) (by kernel_rfl) (hf (2,22,1) (by simp)) (fun cs hcs=>decl_use cs hcs);obtain⟨l3,e3,_⟩:=tp_list (e:=69) (c:=3) (b:=64) (enc:=elDt) (Q:=fun _=>True) (by kernel_rfl) (hf (3,23,1) (by simp)) (fun cs hcs=>decl_dt cs hcs);obtain⟨l4,e4,_⟩:=tp_list (e:=37) (c:=2) (b:=40) (enc:=elTr) (Q:=fun _=>True) (by kernel_rfl) (hf (4,24,1) (by simp)) (fun cs hcs=>decl_tr cs hcs);obtain⟨l5,e5,_⟩:=tp_list (e:=41) (c:=3) (b:=56) (enc:=elIm) (Q:=fun _=>True) (by kernel_rfl) (hf (5,25,1) (by simp)) (fun cs hcs=>decl_im cs hcs);obtain⟨l6,e6,_⟩:=tp_list (e:=64) (c:=15) (b:=272) (enc:=elFu) (Q:=fun _=>True) (by kernel_rfl) (hf (6,26,1) (by simp)) (fun cs hcs=>decl_fu cs hcs);obtain⟨l7,e7,_⟩:=tp_list (e:=98) (c:=14) (b:=248) (enc:=elAc) (Q:=fun _=>True) (by kernel_rfl) (hf (7,27,1) (by simp)) (fun cs hcs=>decl_ac cs hcs)
   cases e0;cases e1;cases e2;cases e3;cases e4;cases e5;cases e6;cases e7
   exact⟨⟨s,n,l2,l3,l4,l5,l6,l7⟩,rfl,trivial⟩
end Go.Proofs.YtldppkdekklpkaaGreatDoor
end
section
open Go Go.AM
namespace TR
namespace TO
def thereF (is:List LIm) (x:LIm):Bool:=is.any fun y=>y.tr==x.tr&&y.fo==x.fo
def findF (ts:List LTr) (n:ByteArray):Option LTr:=ts.find? fun t=>t.name==n
def basicF (s:ByteArray):Bool:=s==(⟨#[105,110,116]⟩:ByteArray)||(s==(⟨#[98,111,111,108]⟩:ByteArray)||(s==(⟨#[116,101,120,116]⟩:ByteArray)||s==(⟨#[117,110,105,116]⟩:ByteArray)))
def funcsF (Z:LIm→LFu→LFu→Int) (x:LIm):List LFu→List LFu→Int
 |f::r,w::s=>bif f.name==w.name then (bif Z x f w==0 then funcsF Z x r s else Z x f w) else 16
 |_,_=>0
def implF (Z:LIm→LFu→LFu→Int) (p:LPg) (k:Nat) (x:LIm):Int:=
 bif thereF (p.impls.take k) x then 5 else match findF p.traits x.tr with
 |none=>11
 |some t=>bif !basicF x.fo&&!(p.datas.any fun d=>d.name==x.fo) then 11 else bif x.funcs.length==t.funcs.length then funcsF Z x x.funcs t.funcs else 16
def implsF (Z:LIm→LFu→LFu→Int) (p:LPg):Nat→List LIm→Int
 |_,[]=>0
 |k,x::r=>bif implF Z p k x==0 then implsF Z p (k+1) r else implF Z p k x
def traitsF (W:LTr→Int):List LTr→Int
 | []=>0
 |t::r=>bif W t==0 then traitsF W r else W t
def progF (W:LTr→Int) (Z:LIm→LFu→LFu→Int) (p:LPg):Int:=bif traitsF W p.traits==0 then implsF Z p 0 p.impls else traitsF W p.traits
theorem impls_all {Z:LIm→LFu→LFu→Int} {p:LPg}:∀{l:List LIm} {k:Nat},implsF Z p k l=0→∀j x,l[j]?=some x→implF Z p (k+j) x=0
 | [],_,_,j,x,hx=>by cases hx
 |y::r,k,h,j,x,hx=>by
  rw[implsF]at h
  cases hz:implF Z p k y==0 with
  |false=>rw[hz,cond_false]at h;rw[h]at hz;cases hz
  |true=>
   rw[hz,cond_true]at h
   cases j with
   |zero=>simp at hx;subst hx;simpa using hz
   |succ j=>
    have:=impls_all h j x (by simpa using hx)
    rwa [show k+(j+1)=k+1+j by omega]
theorem prog_impl {W:LTr→Int} {Z:LIm→LFu→LFu→Int} {p:LPg} (h:progF W Z p=0) {k:Nat} {x:LIm} (hx:p.impls[k]?=some x):implF Z p k x=0:=by
 rw[progF]at h
 cases hz:traitsF W p.traits==0 with
 |false=>rw[hz,cond_false]at h;rw[h]at hz;cases hz
 |true=>
  rw[hz,cond_true]at h;have:=impls_all h k x hx
  rwa [Nat.zero_add]at this
theorem impl_zero {Z:LIm→LFu→LFu→Int} {p:LPg} {k:Nat} {x:LIm} (h:implF Z p k x=0):thereF (p.impls.take k) x=false∧∃t,findF p.traits x.tr=some t∧x.funcs.length=t.funcs.length:=by
 rw[implF]at h
 cases h1:thereF (p.impls.take k) x with
 |true=>rw[h1,cond_true]at h;cases h
 |false=>
  rw[h1,cond_false]at h;refine⟨rfl,?_⟩
  cases h2:findF p.traits x.tr with
  |none=>rw[h2]at h;cases h
  |some t=>
   rw[h2]at h;dsimp only at h;refine⟨t,rfl,?_⟩
   cases h3:(!basicF x.fo&&!(p.datas.any fun d=>d.name==x.fo)) with
   |true=>rw[h3,cond_true]at h;cases h
   |false=>
    rw[h3,cond_false]at h
    cases h4:x.funcs.length==t.funcs.length with
    |true=>simpa using h4
    |false=>rw[h4,cond_false]at h;cases h
theorem one_impl {W:LTr→Int} {Z:LIm→LFu→LFu→Int} {p:LPg} (h:progF W Z p=0) {i k:Nat} {x y:LIm} (hx:p.impls[k]?=some x) (hy:p.impls[i]?=some y) (hik:i≠k):¬((y.tr==x.tr)=true∧(y.fo==x.fo)=true):=by
 have key:∀{a b:Nat} {u v:LIm},p.impls[a]?=some u→p.impls[b]?=some v→a<b→((u.tr==v.tr)=true∧(u.fo==v.fo)=true)→False:=by
  intro a b u v hu hv hab ⟨e1,e2⟩;have:=(impl_zero (prog_impl h hv)).1;rw[thereF,List.any_eq_false]at this
  have hm:u∈p.impls.take b:=by
   refine List.mem_of_getElem? (i:=a) ?_;rw[List.getElem?_take_of_lt hab];exact hu
  have:=this u hm;simp[e1,e2]at this
 rintro⟨e1,e2⟩;rcases Nat.lt_or_gt_of_ne hik with hlt|hlt
 ·exact key hy hx hlt ⟨e1,e2⟩
 ·refine key hx hy hlt ⟨?_,?_⟩
  ·rw[←bl_iff,beq_iff_eq]at e1 ⊢;exact e1.symm
  ·rw[←bl_iff,beq_iff_eq]at e2 ⊢;exact e2.symm
end TO
end TR
end
section
open Go Go.AM Go.Proofs
set_option maxRecDepth 100000
namespace TR
namespace TO
theorem basic_spec (s:ByteArray):APure Tryz.prog 30 [.p (.s s)] (.p (.b (basicF s))):=by
 rw[basicF,←bl_iff,←bl_iff,←bl_iff,←bl_iff];refine APure.intro (tyOf_ok Tryz.prog) hmix Tryz.func30 rfl (by rfl) (by kernel_rfl) (by show 1≤_;decide) rfl ?_;(conv=>whnf);generalize (s.toList==ByteArray.toList ⟨#[105,110,116]⟩)=b1;cases b1<;>conv=>whnf
 rotate_left
 ·exact .inl rfl
 generalize (s.toList==ByteArray.toList ⟨#[98,111,111,108]⟩)=b2;cases b2<;>conv=>whnf
 rotate_left
 ·exact .inl rfl
 generalize (s.toList==ByteArray.toList ⟨#[116,101,120,116]⟩)=b3;cases b3<;>conv=>whnf
 rotate_left
 ·exact .inl rfl
 generalize (s.toList==ByteArray.toList ⟨#[117,110,105,116]⟩)=b4;cases b4<;>conv=>whnf
 ·exact .inl rfl
 ·exact .inl rfl
def headF:Ty→ByteArray
 |.mk k n _=>bif k==1 then ⟨#[105,110,116]⟩ else bif k==2 then ⟨#[98,111,111,108]⟩ else bif k==3 then ⟨#[116,101,120,116]⟩ else bif k==4 then ⟨#[117,110,105,116]⟩ else bif k==6 then n else ⟨#[]⟩
theorem head_spec (t:Ty):APure Tryz.prog 12 [.p (eT t)] (.p (.s (headF t))):=by
 obtain⟨k,n,xs⟩:=t;rw[headF];refine APure.intro (tyOf_ok Tryz.prog) hmix Tryz.func12 rfl (by rfl) (by kernel_rfl) (by show 1≤_;decide) rfl ?_;(conv=>whnf);refine asplit ?_ ?_<;>intro h1<;>conv=>whnf
 ·have h1:(k==1)=true:=h1
  rw[h1];exact .inl rfl
 have h1:(k==1)=false:=h1;rw[h1];refine asplit ?_ ?_<;>intro h2<;>conv=>whnf
 ·have h2:(k==2)=true:=h2
  rw[h2];exact .inl rfl
 have h2:(k==2)=false:=h2;rw[h2];refine asplit ?_ ?_<;>intro h3<;>conv=>whnf
 ·have h3:(k==3)=true:=h3
  rw[h3];exact .inl rfl
 have h3:(k==3)=false:=h3;rw[h3];refine asplit ?_ ?_<;>intro h4<;>conv=>whnf
 ·have h4:(k==4)=true:=h4
  rw[h4];exact .inl rfl
 have h4:(k==4)=false:=h4;rw[h4];refine asplit ?_ ?_<;>intro h5<;>conv=>whnf
 ·have h5:(k==6)=true:=h5
  rw[h5];exact .inl rfl
 have h5:(k==6)=false:=h5;rw[h5];exact .inl rfl
end TO
end TR
end
section
open Go Go.AM Go.Proofs
set_option maxRecDepth 100000
namespace TR
namespace TO
theorem find_spec (p:LPg) (hl:p.traits.length≤2000000) (n:ByteArray):APure Tryz.prog 7 [.p (elPg p),.p (.s n)] (.tup [.p (match findF p.traits n with|some t=>elTr t|none=>.agg [.s ⟨#[]⟩,.sl 15 []]),.p (.i .i64 (match findF p.traits n with|some _=>0|none=>11))]):=by
 obtain⟨nm,ver,us,ds,ts,is,fs,acs⟩:=p;simp only at *;generalize hR:findF ts n=R;refine APure.intro (tyOf_ok Tryz.prog) hmix Tryz.func7 rfl (by rfl) (by kernel_rfl) (by show 2≤_;decide) rfl ?_;(conv=>whnf);refine loopS (tyOf_ok _) hmix (by kernel_rfl) ts.length [1,4,9,10,11] [4] (fun k (_:Unit)=>[.p (.s n),.ptr 4 0,.p (.sl 2 (ts.map elTr)),.p (.i .i64 (ts.map elTr).length),.p (.i .i64 (ix k))]) (fun _ _=>[.cells [.p (.s ⟨#[]⟩),.nilS]]) (fun k _=>findF (ts.drop k) n=R) () ⟨rfl,rfl,rfl,rfl⟩ hR ?_;intro k m hk hs;(conv=>whnf);refine asplit ?_ ?_<;>intro h1<;>conv=>whnf
 ·have hk1:=ix_tt h1 (by simp) hk (by omega)
  obtain⟨b,hb1⟩:∃b,ts[k]?=some b:=⟨_,List.getElem?_eq_getElem hk1⟩
  rw[findF,drop_cons hb1,List.find?_cons]at hs;refine aidxk (x:=elTr b) (by simp[hb1]) (by omega) ?_;(conv=>whnf);refine asplit ?_ ?_<;>intro h2<;>conv=>whnf
  ·rw[bl_iff]at h2
   rw[h2]at hs;subst hs;exact .inl rfl
  ·rw[bl_iff]at h2
   rw[h2]at hs;exact⟨hk1,(),⟨rfl,rfl,rfl,rfl⟩,hs⟩
 ·have hk1:=ix_ff h1 (by simp) hk (by omega)
  rw[hk1,List.drop_length,findF]at hs;subst hs;exact .inl rfl
end TO
end TR
end
section
open Go Go.AM Go.Proofs
set_option maxRecDepth 100000
namespace TR
namespace TO
def dataF (ds:List LDt) (n:ByteArray):Option LDt:=ds.find? fun d=>d.name==n
theorem data_spec (p:LPg) (hl:p.datas.length≤2000000) (n:ByteArray):APure Tryz.prog 31 [.p (elPg p),.p (.s n)] (.tup [.p (match dataF p.datas n with|some t=>elDt t|none=>.agg [.s ⟨#[]⟩,.sl 1 [],.sl 2 []]),.p (.i .i64 (match dataF p.datas n with|some _=>0|none=>11))]):=by
 obtain⟨nm,ver,us,ds,ts,is,fs,acs⟩:=p;simp only at *;generalize hR:dataF ds n=R;refine APure.intro (tyOf_ok Tryz.prog) hmix Tryz.func31 rfl (by rfl) (by kernel_rfl) (by show 2≤_;decide) rfl ?_;(conv=>whnf);refine loopS (tyOf_ok _) hmix (by kernel_rfl) ds.length [1,4,9,10,11] [4] (fun k (_:Unit)=>[.p (.s n),.ptr 4 0,.p (.sl 3 (ds.map elDt)),.p (.i .i64 (ds.map elDt).length),.p (.i .i64 (ix k))]) (fun _ _=>[.cells [.p (.s ⟨#[]⟩),.nilS,.nilS]]) (fun k _=>dataF (ds.drop k) n=R) () ⟨rfl,rfl,rfl,rfl⟩ hR ?_;intro k m hk hs;(conv=>whnf);refine asplit ?_ ?_<;>intro h1<;>conv=>whnf
 ·have hk1:=ix_tt h1 (by simp) hk (by omega)
  obtain⟨b,hb1⟩:∃b,ds[k]?=some b:=⟨_,List.getElem?_eq_getElem hk1⟩
  rw[dataF,drop_cons hb1,List.find?_cons]at hs;refine aidxk (x:=elDt b) (by simp[hb1]) (by omega) ?_;(conv=>whnf);refine asplit ?_ ?_<;>intro h2<;>conv=>whnf
  ·rw[bl_iff]at h2
   rw[h2]at hs;subst hs;exact .inl rfl
  ·rw[bl_iff]at h2
   rw[h2]at hs;exact⟨hk1,(),⟨rfl,rfl,rfl,rfl⟩,hs⟩
 ·have hk1:=ix_ff h1 (by simp) hk (by omega)
  rw[hk1,List.drop_length,dataF]at hs;subst hs;exact .inl rfl
end TO
end TR
end
section
open Go Go.AM Go.Proofs
set_option maxRecDepth 100000
namespace TR
def eqS:List ByteArray→List ByteArray→Bool
 | [],[]=>true
 |a::r,b::s=>(a==b)&&eqS r s
 |_,_=>false
theorem eqS_len:∀(l r:List ByteArray),l.length≠r.length→eqS l r=false
 | [],[],h=>by simp at h
 | [],_::_,_=>rfl
 |_::_,[],_=>rfl
 |a::r,b::s,h=>by simp at h;simp[eqS,eqS_len r s h]
theorem equalS_spec (l r:List ByteArray) (hl:l.length≤2097152):APure Tryz.prog 70 [.p (.sl 1 (l.map eStr)),.p (.sl 1 (r.map eStr))] (.p (.b (eqS l r))):=by
 refine APure.intro (tyOf_ok Tryz.prog) hmix Tryz.func70 rfl (by rfl) (by kernel_rfl) (by show 2≤_;decide) rfl ?_;(conv=>whnf);refine asplit ?_ ?_<;>intro h1<;>conv=>whnf
 ·exact .inl (pb (by rw[eqS_len];intro h;simp[h]at h1))
 have hlr:(l.length:Int)=r.length:=by simpa using h1
 have hlr:l.length=r.length:=by omega
 refine loopS (tyOf_ok _) hmix (by kernel_rfl) l.length [0,1,12,13] [] (fun k _=>[.p (.sl 1 (l.map eStr)),.p (.sl 1 (r.map eStr)),.p (.i .i64 (l.map eStr).length),.p (.i .i64 (ix k))]) (fun _ _=>[]) (fun k _=>eqS l r=eqS (l.drop k) (r.drop k)) () ⟨rfl,rfl,rfl,rfl⟩ rfl ?_;intro k _ hk hs;(conv=>whnf);refine asplit ?_ ?_<;>intro h2<;>conv=>whnf
 ·have hk1:=ix_tt h2 (by simp) hk (by omega)
  obtain⟨a,ha⟩:∃b,l[k]?=some b:=⟨_,List.getElem?_eq_getElem hk1⟩
  obtain⟨b,hb⟩:∃b,r[k]?=some b:=⟨_,List.getElem?_eq_getElem (by omega)⟩
  rw[drop_cons ha,drop_cons hb,eqS]at hs;refine aidxk (x:=eStr a) (by simp[ha]) (by omega) ?_;(conv=>whnf);refine aidxk (x:=eStr b) (by simp[hb]) (by omega) ?_;(conv=>whnf)
  first|refine aneed (.inl (by kernel_rfl)) ?_|refine aneed (by kernel_rfl) ?_
  (conv=>whnf);refine asplit ?_ ?_<;>intro h3<;>conv=>whnf
  ·have h3:(!(a.toList==b.toList))=true:=h3
   rw[bl_iff]at h3;exact .inl (pb (by rw[hs];cases hq:a==b with|true=>rw[hq]at h3;cases h3|false=>rfl))
  ·have h3:(!(a.toList==b.toList))=false:=h3
   rw[bl_iff]at h3;refine⟨hk1,(),⟨rfl,rfl,rfl,rfl⟩,?_⟩;rw[hs];cases hq:a==b with|true=>rfl|false=>rw[hq]at h3;cases h3
 ·have hk1:=ix_ff h2 (by simp) hk (by omega)
  exact .inl (pb (by rw[hs,hk1,List.drop_length,hlr,List.drop_length];rfl))
end TR
end
section
open Go Go.AM Go.Proofs
set_option maxRecDepth 100000
namespace TR
structure Fu where
 name:ByteArray
 ps:List PV
 ns:List PV
 ts:List PV
 ok:Int
 on:ByteArray
 oa:List PV
 body:Ex
structure Im where
 tr:ByteArray
 fo:ByteArray
 funcs:List Fu
structure Mk where
 name:ByteArray
 ts:List PV
structure Dt where
 name:ByteArray
 ps:List PV
 makes:List Mk
structure Tr where
 name:ByteArray
 funcs:List Fu
structure Ac where
 name:ByteArray
 ns:List PV
 ts:List PV
 mi:Int
 mn:ByteArray
 ma:List PV
 body:Ex
structure Pg where
 name:ByteArray
 ver:Int
 uses:List PV
 datas:List Dt
 traits:List Tr
 impls:List Im
 funcs:List Fu
 actors:List Ac
end TR
end
section
open Go Go.AM Go.Proofs
set_option maxRecDepth 100000
namespace TR
def twF:List ByteArray→List (ByteArray×Bool)→Bool
 | [],_=>false
 |s::r,m=>bif (slook s m).getD false then true else twF r (sput s true m)
theorem twice_spec (l:List ByteArray) (hl:l.length≤2097152):APure Tryz.prog 29 [.p (.sl 1 (l.map eStr))] (.p (.b (twF l []))):=by
 generalize hR:twF l []=R;refine APure.intro (tyOf_ok Tryz.prog) hmix Tryz.func29 rfl (by rfl) (by kernel_rfl) (by show 1≤_;decide) rfl ?_;(conv=>whnf);refine loopS (tyOf_ok _) hmix (by kernel_rfl) l.length [3,7,8,9] [6] (fun k (m:List (ByteArray×Bool))=>[.mp 6,.p (.sl 1 (l.map eStr)),.p (.i .i64 (l.map eStr).length),.p (.i .i64 (ix k))]) (fun _ m=>[.map .ks (eM vB m)]) (fun k m=>twF (l.drop k) m=R) [] ⟨rfl,rfl,rfl,rfl⟩ hR ?_;intro k m hk hs;(conv=>whnf);refine asplit ?_ ?_<;>intro h1<;>conv=>whnf
 ·have hk1:=ix_tt h1 (by simp) hk (by omega)
  obtain⟨b,hb1⟩:∃b,l[k]?=some b:=⟨_,List.getElem?_eq_getElem hk1⟩
  rw[drop_cons hb1,twF]at hs;refine aidxk (x:=eStr b) (by simp[hb1]) (by omega) ?_;(conv=>whnf);refine alook (mlook_B b m) ?_;(conv=>whnf);refine asplit ?_ ?_<;>intro h2<;>conv=>whnf
  ·rw[h2,cond_true]at hs
   exact .inl (pb hs)
  ·rw[h2,cond_false]at hs
   exact⟨hk1,sput b true m,⟨by rw[←mput_eM];rfl,rfl,rfl,rfl⟩,hs⟩
 ·have hk1:=ix_ff h1 (by simp) hk (by omega)
  rw[hk1,List.drop_length,twF]at hs;exact .inl (pb hs)
end TR
end
