/-
  DERIVED. Contracts of functions that the law reaches, and the law, for every input. No conditions.
-/
import Derived.Test.YtmakmpapchiioaaGreatDoorSX5
import Derived.Test.YtmakmpapchiioaaGreatDoorSX6
open Go Go.AM Go.Proofs TR TK PA
set_option maxRecDepth 100000
namespace SX
open SH SW
theorem parse_cases (l:Bs):(∃at_ e,(e != 0)=true∧parseF l=(pg0,at_,e))∨∃p,parseF l=(p,0,0)∧rPg p=0∧rgPg p∧wlPg p≤1048576:=by
 unfold parseF
 rcases readF_cases l with⟨T,hq⟩|⟨p,hq⟩|⟨p,hq⟩
 ·rw[hq]
  simp only[show((0:Int) != 0)=false from rfl,cond_false]
  obtain⟨h1,h2,_⟩:=read_ok hq
  cases hp:programF T l.length 0 with
  |error e=>exact .inl ⟨e,10,by decide,rfl⟩
  |ok x=>
   obtain⟨pg,b⟩:=x
   cases hr:rPg pg != 0 with
   |true=>exact .inl ⟨0,rPg pg,hr,by simp only[hr,cond_true]⟩
   |false=>exact .inr ⟨pg,by simp only[hr,cond_false],by simpa using hr,g_program T _ 0 pg b hp,prog_wt (tok_of l h1 T h2).len (tw_of l T h2) hp⟩
 ·rw[hq];exact .inl ⟨p,2,by decide,rfl⟩
 ·rw[hq];exact .inl ⟨p,10,by decide,rfl⟩
theorem same0:APure Tryz.prog 13 [.p (elPg pg0),.p (elPg pg0)] (.p (.b true)):=same_spec pg0 pg0 (by decide) rfl
theorem pb_1 (tab:List Value) (ev:Value) (s:ByteArray) (at_ e:Int) (he:(e != 0)=true) (h0:AMem Tryz.prog 7 [] (hE ev) (.p (.b true)) (hE ev)) (h1:AMem Tryz.prog 8 [.p (.s s)] (hE ev) (vParse (pg0,at_,e)) (hE ev)):
 AMem Tryz.prog 5 [.p (.s s)] (glob2H 0 tab 2 [ev]) (.p (.b true)) (glob2H 0 tab 2 [ev]):=by
 have h2:=same0
 unfold hE glob2H at *
 refine AMem.intro (tyOf_ok Tryz.prog) hmix Tryz.func5 rfl (by rfl) (by kernel_rfl) (by show 1≤_;decide) rfl ?_
 conv=>whnf
 refine amc [1000000001] 500 h0 ?_
 conv=>whnf
 refine amc [1000000001] 600 h1 ?_
 conv=>whnf
 refine ast he ?_
 refine apc h2 ?_
 conv=>whnf
 conv=>whnf
 exact⟨.inl rfl,⟨rfl,rfl⟩,⟨rfl,rfl⟩,trivial⟩
theorem pb_2 (tab:List Value) (ev:Value) (s:ByteArray) (p:LPg) (h0:AMem Tryz.prog 7 [] (hE ev) (.p (.b true)) (hE ev)) (h1:AMem Tryz.prog 8 [.p (.s s)] (hE ev) (vParse (p,0,0)) (hE ev))
 (h2:AMem Tryz.prog 12 [.p (elPg p)] (hW tab) (.tup [.p (.s ⟨#[]⟩),.p (.i .i64 2)]) (hW tab)):
 AMem Tryz.prog 5 [.p (.s s)] (glob2H 0 tab 2 [ev]) (.p (.b true)) (glob2H 0 tab 2 [ev]):=by
 unfold hE hW glob2H at *
 refine AMem.intro (tyOf_ok Tryz.prog) hmix Tryz.func5 rfl (by rfl) (by kernel_rfl) (by show 1≤_;decide) rfl ?_
 conv=>whnf
 refine amc [1000000001] 500 h0 ?_
 conv=>whnf
 refine amc [1000000001] 600 h1 ?_
 conv=>whnf
 refine amc [1000000000] 700 h2 ?_
 conv=>whnf
 conv=>whnf
 exact⟨.inl rfl,⟨rfl,rfl⟩,⟨rfl,rfl⟩,trivial⟩
theorem pb_3 (tab:List Value) (ev:Value) (s t:ByteArray) (p q:LPg) (h0:AMem Tryz.prog 7 [] (hE ev) (.p (.b true)) (hE ev)) (h1:AMem Tryz.prog 8 [.p (.s s)] (hE ev) (vParse (p,0,0)) (hE ev))
 (h2:AMem Tryz.prog 12 [.p (elPg p)] (hW tab) (.tup [.p (.s t),.p (.i .i64 0)]) (hW tab)) (h3:AMem Tryz.prog 8 [.p (.s t)] (hE ev) (vParse (q,0,0)) (hE ev))
 (h4:AMem Tryz.prog 12 [.p (elPg q)] (hW tab) (.tup [.p (.s t),.p (.i .i64 0)]) (hW tab)) (h5:APure Tryz.prog 13 [.p (elPg p),.p (elPg q)] (.p (.b true))):
 AMem Tryz.prog 5 [.p (.s s)] (glob2H 0 tab 2 [ev]) (.p (.b true)) (glob2H 0 tab 2 [ev]):=by
 unfold hE hW glob2H at *
 refine AMem.intro (tyOf_ok Tryz.prog) hmix Tryz.func5 rfl (by rfl) (by kernel_rfl) (by show 1≤_;decide) rfl ?_
 conv=>whnf
 refine amc [1000000001] 500 h0 ?_
 conv=>whnf
 refine amc [1000000001] 600 h1 ?_
 conv=>whnf
 refine amc [1000000000] 700 h2 ?_
 conv=>whnf
 refine amc [1000000001] 800 h3 ?_
 conv=>whnf
 refine amc [1000000000] 900 h4 ?_
 conv=>whnf
 refine apc h5 ?_
 conv=>whnf
 conv=>whnf
 exact⟨.inl (congrArg (fun b=>AV.p (PV.b b)) (beq_self_eq_true _)),⟨rfl,rfl⟩,⟨rfl,rfl⟩,trivial⟩
theorem pback_spec {tab:List Value} (hI:ItoC tab) (ev:Value) (hev:ev=.nilIface∨∃te pe,ev=.iface te pe) (l:Bs):
 AMem Tryz.prog 5 [.p (.s (B l))] (glob2H 0 tab 2 [ev]) (.p (.b true)) (glob2H 0 tab 2 [ev]):=by
 have h0:=reads_spec ev hev
 have h1:=parse_spec ev hev l
 rcases parse_cases l with⟨at_,e,he,hp⟩|⟨p,hp,hr,hg,hw⟩
 ·rw[hp]at h1
  exact pb_1 tab ev _ at_ e he h0 h1
 ·rw[hp]at h1
  have h2:=text_spec hI p hg hw
  by_cases hl:(txPg p).length>4000
  ·have e2:showT p=([],2):=by unfold showT;rw[hr,decide_eq_true hl];rfl
   rw[e2]at h2
   exact pb_2 tab ev _ p h0 h1 h2
  ·have e2:showT p=(txPg p,0):=by unfold showT;rw[hr,decide_eq_false hl];rfl
   rw[e2]at h2
   obtain⟨q,q1,q2,q3⟩:=parse_show (pg_ok hr hg) hr (by omega)
   have h3:=parse_spec ev hev (txPg p)
   rw[q3]at h3
   have hgq:rgPg q:=by
    rcases parse_cases (txPg p) with⟨at_,e,he,hp2⟩|⟨q',hp2,_,hg2,_⟩
    ·rw[q3]at hp2
     simp only[Prod.mk.injEq]at hp2
     rw[←hp2.2.2]at he
     cases he
    ·rw[q3]at hp2
     simp only[Prod.mk.injEq]at hp2
     rw[hp2.1]
     exact hg2
   have hwq:wlPg q≤1048576:=by rw[←wPg_cl q,q1,wPg_cl];exact hw
   have htq:txPg q=txPg p:=by rw[←txPg_cl q,q1,txPg_cl]
   have e4:showT q=(txPg p,0):=by unfold showT;rw[q2,htq,decide_eq_false hl];rfl
   have h4:=text_spec hI q hgq hwq
   rw[e4]at h4
   exact pb_3 tab ev _ _ p q h0 h1 h2 h3 h4 (same_spec p q hw q1.symm)
end SX
