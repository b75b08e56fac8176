/- Part of a machine over plain values. No conditions. -/
import Derived.Test.YtdmopjgjhfhfdaaGreatDoorAMMv
import Derived.Test.YtdmopjgjhfhfdaaGreatDoorAMRow
import Derived.Lib.LaidU8
import Derived.Shelf.Strings.SplitShaped
import Derived.Shelf.Strconv.Itoa3
import Derived.Lib.ItoaLen
namespace Go.AM
open Go.ChangeShapes Go.WideShapes Go.ChangeAt Go.RowKit
def globH (gb:Nat) (vs:List Value):Heap:=[(1000000000,.glob gb vs)]
theorem glob_hrel {g:Gh} {w:World} {gb:Nat} {vs:List Value} (hno:g.own gb=none) (h:∃(E:TypeId) (fr:Nat×Nat),w.heap[gb]?=some (.cells vs.toArray E fr)):HRel g w (globH gb vs):=by
 refine⟨fun l o ho=>?_,fun l o ho hs=>?_,fun l o ho hs=>?_⟩
 all_goals
  unfold globH at ho
  by_cases hl:1000000000=l
  ·subst hl
   rw[hget_self]at ho;cases ho
   first|exact .glob gb vs ⟨hno,h⟩|exact absurd hs (by decide)|cases hs
  ·rw[hget_ne hl]at ho;cases ho
end Go.AM
namespace Go.AM
open Go.ChangeShapes Go.WideShapes Go.ChangeAt Go.RowKit
theorem law_contractG {H:Type} {enc:TypeId×Value→H} {P:Program} {F:Nat} {fn:Func} {s:ChangeSpec} {fresh handsOn again:Bool} {tb:Nat} {l:List Nat} {gh:Heap} (hvars:s.vars=[]) (hl:plainB P l=true) (hpl:∀t∈fn.params.toList,t∈l)
 (hlaid:laidOutB P=true) (hread:∀t∈fn.params.toList,P.readableRec t=true∧t<P.types.size) (hres:fn.resultTypes=#[tb]) (hb:P.underlying tb=some .bool)
 (hspec:∀ds:List (DataW H),ds.length=fn.params.toList.length→(s.fn H ds).results=[.lit (.bool true)]∧(s.fn H ds).args=ds∧(s.fn H ds).vars=[])
 (W:World) (base:Nat) (args:Array Value) (ds gs:List (DataW H)) (before:List MemPlace)
 (hval:∀(j:Nat) t v,fn.params[j]?=some t→args[j]?=some v→Value.okWide P W .any base t v)
 (hW:DataW.Whole enc P fn.params.toList s.vars false W args.toList ds gs before) (hwt:∀x∈DataW.weightsEach P fn.params.toList ds,x≤reachBytes)
 (hgb:HRel (allG W) W gh)
 (hpure:∀xss:List (List PV),TPs P fn.params.toList xss→wtss xss≤bulkAll ds→AMem P F (mkArgs P fn.params.toList xss) gh (.p (.b true)) gh):
 Calls P F args W fun e W'=>∃v,e=.returned v∧s.post enc P fn false fresh handsOn again W args v W':=by
 have hW':=hW;obtain⟨p,q,hA,hV,hps,hfz,hnd⟩:=hW;rw[hvars]at hV
 have hgs:gs=[]∧q=[]:=by
  cases gs with
  |nil=>exact⟨rfl,hV⟩
  |cons x r=>simp[DataW.TrodVars]at hV
 obtain⟨rfl,rfl⟩:=hgs;simp only[List.append_nil]at hps;subst hps;obtain⟨xss,k1,k2,k3,k4⟩:=args_rel hl fn.params.toList args.toList ds before hpl hA (fun j t v a b=>hval j t v (by simpa using a) (by simpa using b)) hwt
 have hdl:ds.length=fn.params.toList.length:=by
  clear hval hW' hwt hpure k1 k2 k3 k4 hfz hnd hspec hpl hread;generalize fn.params.toList=ts at hA;generalize args.toList=vs at hA
  induction ts generalizing vs ds before with
  |nil=>
   cases vs<;>cases ds<;>simp[DataW.TrodAll]at hA ⊢
  |cons t ts ih=>
   cases vs with
   |nil=>simp[DataW.TrodAll]at hA
   |cons v vs=>
    cases ds with
    |nil=>simp[DataW.TrodAll]at hA
    |cons d ds=>
     obtain⟨p,q,_,h2,_⟩:=hA;simp[ih ds q vs h2]
 obtain⟨s1,s2,s3⟩:=hspec ds hdl;have hcall:=(hpure xss k1 k4).2 (allG W) W args.toList hgb (fun _ _ h=>by cases h) k2 (fun j v x h1 h2=>(k3 j v x h1 h2).keep (fun _ _ _ h=>h) (fun _ h=>h.elim) (fun _ _ _ h=>h.elim) (fun _ _ h=>by cases h));simp only[Array.toArray_toList]at hcall;refine hcall.mono ?_;rintro e W' ⟨v,g',rfl,hv,_,_,hE⟩;have hg:=hE.grown (fun _=>rfl);cases hv.bool;refine⟨_,rfl,post_of_same2 (pa:=before) (pv:=[]) hW' (fun bb sp hd=>?_) (fun sp hsp=>?_) (fun sp _=>?_) (by simp) (World.keptBut_mono (fun _ f=>f.elim) hg.1) hg.2 (ok_one hres rfl (okWide_bool_mk hb true))⟩
 ·rw[List.append_nil,s1,hres]
  exact trodAll_cons_mk (shut_bool hb true) trodAll_mk0
 ·rw[List.append_nil,s2]
  refine TrodAll_stays hlaid _ _ _ _ hread hA (fun x hx=>?_) hsp;have hlt:=hW'.lt x hx
  cases x with
  |cell b off=>
   have:W'.heap[b]?=W.heap[b]?:=(hE.kept b hlt rfl).1;simp only[World.sameAt,World.cell?,this]
  |map b=>exact(hE.kept b hlt rfl).1
 ·rw[List.append_nil,s3,hvars];rfl
theorem law_uptoG {H:Type} {enc:TypeId×Value→H} {P:Program} {F:Nat} {fn:Func} {s:ChangeSpec} {fresh handsOn again:Bool} {tb:Nat} {gh:Heap} (B:Nat) (ps:List Nat) (hvars:s.vars=[]) (hp:fn.params.toList=ps) (hck:lawCk P ps=true)
 (hres:fn.resultTypes=#[tb]) (hb:P.underlying tb=some .bool)
 (hspec:∀ds:List (DataW H),ds.length=ps.length→(s.fn H ds).results=[.lit (.bool true)]∧(s.fn H ds).args=ds∧(s.fn H ds).vars=[])
 (W:World) (base:Nat) (args:Array Value) (ds gs:List (DataW H)) (before:List MemPlace)
 (hval:∀(j:Nat) t v,fn.params[j]?=some t→args[j]?=some v→Value.okWide P W .any base t v)
 (hW:DataW.Whole enc P fn.params.toList s.vars false W args.toList ds gs before) {vs:List Nat} (hsz:(DataW.weightsEach P (fn.params.toList++vs) (ds++gs)).all (·≤reachBytes)=true) (hvs:vs=[]) (hB:bulkAll (ds++gs)≤B)
 (hgb:HRel (allG W) W gh)
 (hpure:∀xss:List (List PV),TPs P ps xss→wtss xss≤B→AMem P F (mkArgs P ps xss) gh (.p (.b true)) gh):
 Calls P F args W fun e W'=>∃v,e=.returned v∧s.post enc P fn false fresh handsOn again W args v W':=by
 simp only[lawCk,Bool.and_eq_true,List.all_eq_true,List.contains_iff_mem]at hck;obtain⟨⟨h1,h2⟩,h3⟩:=hck
 have hg:gs=[]:=by
  obtain⟨p,q,_,hV,_⟩:=hW;rw[hvars]at hV
  cases gs with
  |nil=>rfl
  |cons x r=>simp[DataW.TrodVars]at hV
 subst hg;subst hvs;simp only[List.append_nil]at hsz hB;refine law_contractG (l:=plainTypes P 1000 ps []) hvars h1 (by rw[hp];exact fun t ht=>(h2 t ht).1.1) h3 (by rw[hp];exact fun t ht=>⟨(h2 t ht).1.2,by have:=(h2 t ht).2;rwa [Nat.blt_eq]at this⟩) hres hb (by rw[hp];exact hspec) W base args ds [] before hval hW ?_ hgb (by rw[hp];exact fun xss h h'=>hpure xss h (by omega));intro x hx;exact of_decide_eq_true (List.all_eq_true.1 hsz x hx)
theorem ext_grown {g:Gh} {w w':World} (hs:w.heap.size≤w'.heap.size) (hos:w'.os=w.os) (hout:w'.output=w.output) (hblk:∀b,b<w.heap.size→w'.heap[b]?=w.heap[b]?):Ext g w g w':=by
 refine⟨hs,hos,hout,fun b o v hv=>?_,fun b hb ho=>⟨hblk b hb,rfl,ho⟩,SgLe.of rfl rfl,fun a ha=>?_,fun _ _=>rfl,fun b cs E hb=>⟨cs,E,?_,rfl⟩⟩
 ·simp only[imm_eq]at hv ⊢
  split at hv
  ·rename_i hp
   rw[if_pos hp]
   have hlt:b<w.heap.size:=by
    unfold World.cell? at hv;split at hv
    ·rename_i hb
     exact(Array.getElem?_eq_some_iff.1 hb).1
    ·cases hv
   unfold World.cell? at hv ⊢;rw[hblk b hlt];exact hv
  ·cases hv
 ·unfold World.frozen?
  rw[hblk _ ha]
 ·rw[hblk b (Array.getElem?_eq_some_iff.1 hb).1];exact hb
end Go.AM
open Go Go.Proofs
namespace Go.AM
theorem law_ofG {H:Type} {enc:TypeId×Value→H} {P:Program} {F:Nat} {fn:Func} {s:ChangeSpec} {fresh handsOn again:Bool} {tb:Nat} {gh:Heap} (ps:List Nat) (hvars:s.vars=[]) (hp:fn.params.toList=ps) (hck:lawCk P ps=true)
 (hres:fn.resultTypes=#[tb]) (hb:P.underlying tb=some .bool)
 (hspec:∀ds:List (DataW H),ds.length=ps.length→(s.fn H ds).results=[.lit (.bool true)]∧(s.fn H ds).args=ds∧(s.fn H ds).vars=[])
 (W:World) (base:Nat) (args:Array Value) (ds gs:List (DataW H)) (before:List MemPlace)
 (hval:∀(j:Nat) t v,fn.params[j]?=some t→args[j]?=some v→Value.okWide P W .any base t v)
 (hW:DataW.Whole enc P fn.params.toList s.vars false W args.toList ds gs before) {vs:List Nat} (hsz:(DataW.weightsEach P (fn.params.toList++vs) (ds++gs)).all (·≤reachBytes)=true) (hvs:vs=[])
 (hgb:HRel (allG W) W gh)
 (hpure:∀xss:List (List PV),TPs P ps xss→AMem P F (mkArgs P ps xss) gh (.p (.b true)) gh):
 Calls P F args W fun e W'=>∃v,e=.returned v∧s.post enc P fn false fresh handsOn again W args v W':=
 law_uptoG (bulkAll (ds++gs)) ps hvars hp hck hres hb hspec W base args ds gs before hval hW hsz hvs (Nat.le_refl _) hgb (fun xss h _=>hpure xss h)
theorem iface_reads {P:Program} {W:World} {name:String} {d:DataW Unit} {g:Nat} {t:TypeId} (hg:P.globalNamed name=some g) (hty:(P.globals[g]?).map (·.type)=some t) (ht:(match P.underlying t with|some (.interface _)=>true|_=>false)=true)
 (h:Lib.VarReads P W name d):∃ev:Value,(ev=.nilIface∨∃te pe,ev=.iface te pe)∧∃(E:TypeId) (fr:Nat×Nat),W.heap[g]?=some (.cells [ev].toArray E fr):=by
 obtain⟨g',t',cs,fuel,p,hg',ht',hvar,hd⟩:=h;obtain rfl:=Option.some.inj (hg.symm.trans hg');obtain rfl:=Option.some.inj (hty.symm.trans ht')
 have hcs:∃ev:Value,(ev=.nilIface∨∃te pe,ev=.iface te pe)∧cs=[ev].toArray:=by
  cases fuel with
  |zero=>simp[DataW.trod]at hd
  |succ fuel=>
   split at ht
   ·rename_i x hx
    simp only[DataW.trod,hx]at hd;split at hd
    all_goals first|(rename_i h1 _;cases h1;done)|(rename_i h1;cases h1;done)|(cases hd;done)|skip
    ·rename_i _ h2
     exact⟨.nilIface,.inl rfl,by rw[←h2]⟩
    ·rename_i _ h2
     exact⟨_,.inr ⟨_,_,rfl⟩,by rw[←h2]⟩
   ·cases ht
 obtain⟨ev,h1,h2⟩:=hcs;refine⟨ev,h1,?_⟩;unfold World.var? at hvar;rw[hg]at hvar;simp only[Option.bind_some]at hvar;split at hvar
 ·rename_i cs' E fr hb
  simp only[Option.some.injEq]at hvar;exact⟨E,fr,by rw[hb,hvar,h2]⟩
 ·cases hvar
end Go.AM
