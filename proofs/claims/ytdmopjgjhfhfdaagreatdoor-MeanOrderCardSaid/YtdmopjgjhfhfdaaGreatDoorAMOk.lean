/- Part of a machine over plain values. No conditions. -/
import Derived.Test.YtdmopjgjhfhfdaaGreatDoorAMMv
namespace Go.AM
def okX {α β:Type}:Except α β→Bool
 |.ok _=>true
 |.error _=>false
theorem okE (h:false=true):False:=by cases h
def AMemO (P:Program) (f:Nat) (args:List AV) (hs:Heap) (o:Except Value (AV×Heap)):Prop:=∀r h',o=.ok (r,h')→AMem P f args hs r h'
theorem AMemO.intro {P:Program} {ty:Nat→Option TI} (hty:TyOK P ty) (hmix:P.follows .mixedOrders=true) {f:Nat} {fn:Func} {c:Code} {args:List AV} {hs:Heap} {o:Except Value (AV×Heap)} (hf:P.funcs[f]?=some fn) (hb:fn.body=some c) (hname:(fn.name== "runtime.NumGoroutine")=false) (hlen:args.length≤fn.ntmps) (hok:codeOK fn.ntmps c=true)
 (hk:okX o=true→awp ty (pcall P) (lpOf P fn.ntmps) c (fun x' e' h=>match o with|.ok y=>retKM ty fn.results.toList fn.resultTypes.toList y.1 y.2 x' e' h|.error _=>False) (argEnv 0 args) hs)
 (hr:∀r h',o=.ok (r,h')→(r.within (memB (keysOf h'))&&objsIn (memB (keysOf h')) h'&&globB hs h')=true):AMemO P f args hs o:=by
 intro r h' e;have:=hk (by rw[e];rfl);rw[e]at this;exact AMem.intro hty hmix hf hb hname hok hlen (hr r h' e) this
end Go.AM
