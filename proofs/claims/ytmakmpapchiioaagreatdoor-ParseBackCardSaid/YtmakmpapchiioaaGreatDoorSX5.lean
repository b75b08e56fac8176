/-
  DERIVED. Contracts of functions that the law reaches, and the law, for every input. No conditions.
-/
import Derived.Test.YtmakmpapchiioaaGreatDoorSX3
import Derived.Test.YtmakmpapchiioaaGreatDoorPBA
open Go Go.AM Go.Proofs TR TK PA
set_option maxRecDepth 100000
namespace SX
open SH SW
theorem hmix:Tryz.prog.follows .mixedOrders=true:=by kernel_rfl
def showT (p:LPg):Bs×Int:=bif rPg p != 0 then ([],rPg p) else bif decide ((txPg p).length>4000) then ([],2) else (txPg p,0)
theorem text_spec {tab:List Value} (hI:ItoC tab) (p:LPg) (hg:rgPg p) (hw:wlPg p≤1048576):AMem Tryz.prog 12 [.p (elPg p)] (hW tab) (.tup [.p (.s (B (showT p).1)),.p (.i .i64 (showT p).2)]) (hW tab):=by
 unfold showT
 cases hr:rPg p != 0 with
 |true=>
  rw[cond_true]
  exact text_bad p hr hw
 |false=>
  have hr:rPg p=0:=by simpa using hr
  have ok:=pg_ok hr hg
  rw[cond_false]
  by_cases hl:(txPg p).length>4000
  ·rw[decide_eq_true hl,cond_true]
   exact text_big hI p ok hr hw (by rw[A6_eq];exact hl)
  ·rw[decide_eq_false hl,cond_false,←A6_eq]
   exact text_ok hI p ok hr hw (by rw[A6_eq];omega)
end SX
