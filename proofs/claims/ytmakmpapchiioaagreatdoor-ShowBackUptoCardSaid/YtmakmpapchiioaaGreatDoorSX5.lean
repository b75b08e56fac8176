/-
  DERIVED. Contracts of functions that the law reaches, and the law, for every input. No conditions.
-/
import Derived.Test.YtmakmpapchiioaaGreatDoorSX3
import Derived.Test.YtmakmpapchiioaaGreatDoorPBA
open Go Go.AM Go.Proofs TR TK PA
set_option maxRecDepth 100000
namespace SX
open SH SW
theorem hmix:Tryz.prog.follows .mixedOrders=true:=by kernel_rfl
def showT (p:LPg):Bs×Int:=bif rPg p != 0 then ([],rPg p) else bif decide ((txPg p).length>4000) then ([],2) else (txPg p,0)
theorem text_spec {tab:List Value} (hI:ItoC tab) (p:LPg) (hg:rgPg p) (hw:wlPg p≤1048576):AMem Tryz.prog 12 [.p (elPg p)] (hW tab) (.tup [.p (.s (B (showT p).1)),.p (.i .i64 (showT p).2)]) (hW tab):=by
 unfold showT
 cases hr:rPg p != 0 with
 |true=>
  rw[cond_true]
  exact text_bad p hr hw
 |false=>
  have hr:rPg p=0:=by simpa using hr
  have ok:=pg_ok hr hg
  rw[cond_false]
  by_cases hl:(txPg p).length>4000
  ·rw[decide_eq_true hl,cond_true]
   exact text_big hI p ok hr hw (by rw[A6_eq];exact hl)
  ·rw[decide_eq_false hl,cond_false,←A6_eq]
   exact text_ok hI p ok hr hw (by rw[A6_eq];omega)
theorem showT_ok {p:LPg} (h:(showT p).2=0):rPg p=0∧(txPg p).length≤4000∧showT p=(txPg p,0):=by
 unfold showT at h ⊢
 cases hr:rPg p != 0 with
 |true=>
  rw[hr,cond_true]at h
  have h:rPg p=0:=h
  rw[h]at hr
  cases hr
 |false=>
  have hr':rPg p=0:=by simpa using hr
  rw[hr,cond_false]at h
  rw[cond_false]
  by_cases hl:(txPg p).length>4000
  ·rw[decide_eq_true hl]at h;cases h
  ·rw[decide_eq_false hl]
   exact⟨hr',by omega,rfl⟩
theorem showT_bad {p:LPg} (h:(showT p).2≠0):(showT p).1=[]:=by
 unfold showT at h ⊢
 cases hr:rPg p != 0 with
 |true=>rfl
 |false=>
  rw[cond_false]
  by_cases hl:(txPg p).length>4000
  ·rw[decide_eq_true hl];rfl
  ·rw[hr,decide_eq_false hl]at h;exact absurd rfl h
theorem back_1 (tab:List Value) (ev:Value) (p:LPg) (e:Int) (he:(e != 0)=true) (h0:AMem Tryz.prog 7 [] (hE ev) (.p (.b true)) (hE ev)) (h1:AMem Tryz.prog 12 [.p (elPg p)] (hW tab) (.tup [.p (.s ⟨#[]⟩),.p (.i .i64 e)]) (hW tab)):
 AMem Tryz.prog 4 [.p (elPg p)] (glob2H 0 tab 2 [ev]) (.p (.b true)) (glob2H 0 tab 2 [ev]):=by
 unfold hE hW glob2H at *
 refine AMem.intro (tyOf_ok Tryz.prog) hmix Tryz.func4 rfl (by rfl) (by kernel_rfl) (by show 1≤_;decide) rfl ?_
 conv=>whnf
 refine amc [1000000001] 500 h0 ?_
 conv=>whnf
 refine amc [1000000000] 600 h1 ?_
 conv=>whnf
 rw[he]
 conv=>whnf
 exact⟨.inl (congrArg (fun b=>AV.p (PV.b b)) (beq_self_eq_true _)),⟨rfl,rfl⟩,⟨rfl,rfl⟩,trivial⟩
theorem back_2 (tab:List Value) (ev:Value) (p q:LPg) (s:ByteArray) (h0:AMem Tryz.prog 7 [] (hE ev) (.p (.b true)) (hE ev)) (h1:AMem Tryz.prog 12 [.p (elPg p)] (hW tab) (.tup [.p (.s s),.p (.i .i64 0)]) (hW tab))
 (h2:AMem Tryz.prog 8 [.p (.s s)] (hE ev) (vParse (q,0,0)) (hE ev)) (h3:APure Tryz.prog 13 [.p (elPg p),.p (elPg q)] (.p (.b true))):
 AMem Tryz.prog 4 [.p (elPg p)] (glob2H 0 tab 2 [ev]) (.p (.b true)) (glob2H 0 tab 2 [ev]):=by
 unfold hE hW glob2H at *
 refine AMem.intro (tyOf_ok Tryz.prog) hmix Tryz.func4 rfl (by rfl) (by kernel_rfl) (by show 1≤_;decide) rfl ?_
 conv=>whnf
 refine amc [1000000001] 500 h0 ?_
 conv=>whnf
 refine amc [1000000000] 600 h1 ?_
 conv=>whnf
 refine amc [1000000001] 700 h2 ?_
 conv=>whnf
 refine apc h3 ?_
 conv=>whnf
 conv=>whnf
 exact⟨.inl rfl,⟨rfl,rfl⟩,⟨rfl,rfl⟩,trivial⟩
theorem back_spec {tab:List Value} (hI:ItoC tab) (ev:Value) (hev:ev=.nilIface∨∃te pe,ev=.iface te pe) (p:LPg) (hg:rgPg p) (hw:wlPg p≤1048576):
 AMem Tryz.prog 4 [.p (elPg p)] (glob2H 0 tab 2 [ev]) (.p (.b true)) (glob2H 0 tab 2 [ev]):=by
 have h0:=reads_spec ev hev
 have h1:=text_spec hI p hg hw
 by_cases he:(showT p).2=0
 ·obtain⟨k1,k2,k3⟩:=showT_ok he
  rw[k3]at h1
  obtain⟨q,q1,q2,q3,q4⟩:=parse_show (pg_ok k1 hg) k1 k2
  have h2:=parse_at ev hev (txPg p) (fun pg b hq=>by rw[q4 pg b hq,←wPg_cl q,q1,wPg_cl];exact hw)
  rw[q3]at h2
  exact back_2 tab ev p q _ h0 h1 h2 (same_spec p q hw q1.symm)
 ·rw[showT_bad he]at h1
  exact back_1 tab ev p _ (by simpa using he) h0 h1
end SX
