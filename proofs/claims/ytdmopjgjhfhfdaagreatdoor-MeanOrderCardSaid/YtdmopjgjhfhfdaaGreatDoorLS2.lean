/- Contracts, and the law, for every input. No conditions. -/
import Derived.Test.YtdmopjgjhfhfdaaGreatDoorTR1
import Derived.Test.YtdmopjgjhfhfdaaGreatDoorTK4
open Go Go.AM Go.Proofs
set_option maxRecDepth 100000
namespace TR
theorem eachF_drop {α:Type} (φ:α→Int) (l:List α) (k:Nat) (x:α) (h:l[k]?=some x):eachF φ (l.drop k)=bif φ x==0 then eachF φ (l.drop (k+1)) else φ x:=by
 rw[drop_cons h,eachF]
theorem ne0 {x:Int} (h:(x != 0)=true):(x==0)=false:=by simpa[bne] using h
theorem eq0 {x:Int} (h:(x != 0)=false):(x==0)=true:=by simpa[bne] using h
theorem eachUse (l:List LUse) (f:Nat) (φ:LUse→Int) (hl:l.length≤1048576) (h:∀x∈l,APure Tryz.prog f [.p (elUse x)] (.p (.i .i64 (φ x)))) (R:Int) (hR:eachF φ l=R):
 APure Tryz.prog 64 [.p (.sl 3 (l.map elUse)),.fn f [] []] (.p (.i .i64 R)):=by
 refine APure.intro (tyOf_ok Tryz.prog) hmix Tryz.func64 rfl (by rfl) (by kernel_rfl) (by show 2≤_;decide) rfl ?_;(conv=>whnf);refine loopS (tyOf_ok _) hmix (by kernel_rfl) l.length [1,8,9,10] [] (fun k _=>[.fn f [] [],.p (.sl 3 (l.map elUse)),.p (.i .i64 (l.map elUse).length),.p (.i .i64 (ix k))]) (fun _ _=>[]) (fun k _=>eachF φ (l.drop k)=R) () ⟨rfl,rfl,rfl,rfl⟩ hR ?_;intro k s hk hs;(conv=>whnf);refine asplit ?_ ?_<;>intro h1<;>conv=>whnf
 ·have hk1:=ix_tt h1 (by simp) hk (by omega)
  obtain⟨x,hx⟩:∃b,l[k]?=some b:=⟨_,List.getElem?_eq_getElem hk1⟩
  have hc:=h x (List.mem_of_getElem? hx);rw[eachF_drop φ l k x hx]at hs;refine aidxk (x:=elUse x) (by simp[hx]) (by omega) ?_;generalize φ x=r at hc hs;obtain⟨a,b,c⟩:=x;(conv=>whnf);refine apc hc ?_;(conv=>whnf);refine asplit ?_ ?_<;>intro h2<;>conv=>whnf
  ·rw[ne0 h2,cond_false]at hs
   exact .inl (pi hs)
  ·rw[eq0 h2,cond_true]at hs
   exact⟨hk1,(),⟨rfl,rfl,rfl,rfl⟩,hs⟩
 ·have hk1:=ix_ff h1 (by simp) hk (by omega)
  rw[hk1,List.drop_length,eachF]at hs;exact .inl (pi hs)
theorem eachDt (l:List LDt) (f:Nat) (φ:LDt→Int) (hl:l.length≤1048576) (h:∀x∈l,APure Tryz.prog f [.p (elDt x)] (.p (.i .i64 (φ x)))) (R:Int) (hR:eachF φ l=R):
 APure Tryz.prog 66 [.p (.sl 3 (l.map elDt)),.fn f [] []] (.p (.i .i64 R)):=by
 refine APure.intro (tyOf_ok Tryz.prog) hmix Tryz.func66 rfl (by rfl) (by kernel_rfl) (by show 2≤_;decide) rfl ?_;(conv=>whnf);refine loopS (tyOf_ok _) hmix (by kernel_rfl) l.length [1,8,9,10] [] (fun k _=>[.fn f [] [],.p (.sl 3 (l.map elDt)),.p (.i .i64 (l.map elDt).length),.p (.i .i64 (ix k))]) (fun _ _=>[]) (fun k _=>eachF φ (l.drop k)=R) () ⟨rfl,rfl,rfl,rfl⟩ hR ?_;intro k s hk hs;(conv=>whnf);refine asplit ?_ ?_<;>intro h1<;>conv=>whnf
 ·have hk1:=ix_tt h1 (by simp) hk (by omega)
  obtain⟨x,hx⟩:∃b,l[k]?=some b:=⟨_,List.getElem?_eq_getElem hk1⟩
  have hc:=h x (List.mem_of_getElem? hx);rw[eachF_drop φ l k x hx]at hs;refine aidxk (x:=elDt x) (by simp[hx]) (by omega) ?_;generalize φ x=r at hc hs;obtain⟨a,b,c⟩:=x;(conv=>whnf);refine apc hc ?_;(conv=>whnf);refine asplit ?_ ?_<;>intro h2<;>conv=>whnf
  ·rw[ne0 h2,cond_false]at hs
   exact .inl (pi hs)
  ·rw[eq0 h2,cond_true]at hs
   exact⟨hk1,(),⟨rfl,rfl,rfl,rfl⟩,hs⟩
 ·have hk1:=ix_ff h1 (by simp) hk (by omega)
  rw[hk1,List.drop_length,eachF]at hs;exact .inl (pi hs)
theorem eachTr (l:List LTr) (f:Nat) (φ:LTr→Int) (hl:l.length≤1048576) (h:∀x∈l,APure Tryz.prog f [.p (elTr x)] (.p (.i .i64 (φ x)))) (R:Int) (hR:eachF φ l=R):
 APure Tryz.prog 68 [.p (.sl 2 (l.map elTr)),.fn f [] []] (.p (.i .i64 R)):=by
 refine APure.intro (tyOf_ok Tryz.prog) hmix Tryz.func68 rfl (by rfl) (by kernel_rfl) (by show 2≤_;decide) rfl ?_;(conv=>whnf);refine loopS (tyOf_ok _) hmix (by kernel_rfl) l.length [1,8,9,10] [] (fun k _=>[.fn f [] [],.p (.sl 2 (l.map elTr)),.p (.i .i64 (l.map elTr).length),.p (.i .i64 (ix k))]) (fun _ _=>[]) (fun k _=>eachF φ (l.drop k)=R) () ⟨rfl,rfl,rfl,rfl⟩ hR ?_;intro k s hk hs;(conv=>whnf);refine asplit ?_ ?_<;>intro h1<;>conv=>whnf
 ·have hk1:=ix_tt h1 (by simp) hk (by omega)
  obtain⟨x,hx⟩:∃b,l[k]?=some b:=⟨_,List.getElem?_eq_getElem hk1⟩
  have hc:=h x (List.mem_of_getElem? hx);rw[eachF_drop φ l k x hx]at hs;refine aidxk (x:=elTr x) (by simp[hx]) (by omega) ?_;generalize φ x=r at hc hs;obtain⟨a,b⟩:=x;(conv=>whnf);refine apc hc ?_;(conv=>whnf);refine asplit ?_ ?_<;>intro h2<;>conv=>whnf
  ·rw[ne0 h2,cond_false]at hs
   exact .inl (pi hs)
  ·rw[eq0 h2,cond_true]at hs
   exact⟨hk1,(),⟨rfl,rfl,rfl,rfl⟩,hs⟩
 ·have hk1:=ix_ff h1 (by simp) hk (by omega)
  rw[hk1,List.drop_length,eachF]at hs;exact .inl (pi hs)
theorem eachIm (l:List LIm) (f:Nat) (φ:LIm→Int) (hl:l.length≤1048576) (h:∀x∈l,APure Tryz.prog f [.p (elIm x)] (.p (.i .i64 (φ x)))) (R:Int) (hR:eachF φ l=R):
 APure Tryz.prog 70 [.p (.sl 3 (l.map elIm)),.fn f [] []] (.p (.i .i64 R)):=by
 refine APure.intro (tyOf_ok Tryz.prog) hmix Tryz.func70 rfl (by rfl) (by kernel_rfl) (by show 2≤_;decide) rfl ?_;(conv=>whnf);refine loopS (tyOf_ok _) hmix (by kernel_rfl) l.length [1,8,9,10] [] (fun k _=>[.fn f [] [],.p (.sl 3 (l.map elIm)),.p (.i .i64 (l.map elIm).length),.p (.i .i64 (ix k))]) (fun _ _=>[]) (fun k _=>eachF φ (l.drop k)=R) () ⟨rfl,rfl,rfl,rfl⟩ hR ?_;intro k s hk hs;(conv=>whnf);refine asplit ?_ ?_<;>intro h1<;>conv=>whnf
 ·have hk1:=ix_tt h1 (by simp) hk (by omega)
  obtain⟨x,hx⟩:∃b,l[k]?=some b:=⟨_,List.getElem?_eq_getElem hk1⟩
  have hc:=h x (List.mem_of_getElem? hx);rw[eachF_drop φ l k x hx]at hs;refine aidxk (x:=elIm x) (by simp[hx]) (by omega) ?_;generalize φ x=r at hc hs;obtain⟨a,b,c⟩:=x;(conv=>whnf);refine apc hc ?_;(conv=>whnf);refine asplit ?_ ?_<;>intro h2<;>conv=>whnf
  ·rw[ne0 h2,cond_false]at hs
   exact .inl (pi hs)
  ·rw[eq0 h2,cond_true]at hs
   exact⟨hk1,(),⟨rfl,rfl,rfl,rfl⟩,hs⟩
 ·have hk1:=ix_ff h1 (by simp) hk (by omega)
  rw[hk1,List.drop_length,eachF]at hs;exact .inl (pi hs)
theorem eachFu (l:List LFu) (f:Nat) (φ:LFu→Int) (hl:l.length≤1048576) (h:∀x∈l,APure Tryz.prog f [.p (elFu x)] (.p (.i .i64 (φ x)))) (R:Int) (hR:eachF φ l=R):
 APure Tryz.prog 72 [.p (.sl 15 (l.map elFu)),.fn f [] []] (.p (.i .i64 R)):=by
 refine APure.intro (tyOf_ok Tryz.prog) hmix Tryz.func72 rfl (by rfl) (by kernel_rfl) (by show 2≤_;decide) rfl ?_;(conv=>whnf);refine loopS (tyOf_ok _) hmix (by kernel_rfl) l.length [1,8,9,10] [] (fun k _=>[.fn f [] [],.p (.sl 15 (l.map elFu)),.p (.i .i64 (l.map elFu).length),.p (.i .i64 (ix k))]) (fun _ _=>[]) (fun k _=>eachF φ (l.drop k)=R) () ⟨rfl,rfl,rfl,rfl⟩ hR ?_;intro k s hk hs;(conv=>whnf);refine asplit ?_ ?_<;>intro h1<;>conv=>whnf
 ·have hk1:=ix_tt h1 (by simp) hk (by omega)
  obtain⟨x,hx⟩:∃b,l[k]?=some b:=⟨_,List.getElem?_eq_getElem hk1⟩
  have hc:=h x (List.mem_of_getElem? hx);rw[eachF_drop φ l k x hx]at hs;refine aidxk (x:=elFu x) (by simp[hx]) (by omega) ?_;generalize φ x=r at hc hs;obtain⟨a,b,c,d,⟨e1,e2,e3⟩,⟨x1,x2,x3,x4,x5,x6,x7,x8⟩⟩:=x;(conv=>whnf);refine apc hc ?_;(conv=>whnf);refine asplit ?_ ?_<;>intro h2<;>conv=>whnf
  ·rw[ne0 h2,cond_false]at hs
   exact .inl (pi hs)
  ·rw[eq0 h2,cond_true]at hs
   exact⟨hk1,(),⟨rfl,rfl,rfl,rfl⟩,hs⟩
 ·have hk1:=ix_ff h1 (by simp) hk (by omega)
  rw[hk1,List.drop_length,eachF]at hs;exact .inl (pi hs)
theorem eachAc (l:List LAc) (f:Nat) (φ:LAc→Int) (hl:l.length≤1048576) (h:∀x∈l,APure Tryz.prog f [.p (elAc x)] (.p (.i .i64 (φ x)))) (R:Int) (hR:eachF φ l=R):
 APure Tryz.prog 74 [.p (.sl 14 (l.map elAc)),.fn f [] []] (.p (.i .i64 R)):=by
 refine APure.intro (tyOf_ok Tryz.prog) hmix Tryz.func74 rfl (by rfl) (by kernel_rfl) (by show 2≤_;decide) rfl ?_;(conv=>whnf);refine loopS (tyOf_ok _) hmix (by kernel_rfl) l.length [1,8,9,10] [] (fun k _=>[.fn f [] [],.p (.sl 14 (l.map elAc)),.p (.i .i64 (l.map elAc).length),.p (.i .i64 (ix k))]) (fun _ _=>[]) (fun k _=>eachF φ (l.drop k)=R) () ⟨rfl,rfl,rfl,rfl⟩ hR ?_;intro k s hk hs;(conv=>whnf);refine asplit ?_ ?_<;>intro h1<;>conv=>whnf
 ·have hk1:=ix_tt h1 (by simp) hk (by omega)
  obtain⟨x,hx⟩:∃b,l[k]?=some b:=⟨_,List.getElem?_eq_getElem hk1⟩
  have hc:=h x (List.mem_of_getElem? hx);rw[eachF_drop φ l k x hx]at hs;refine aidxk (x:=elAc x) (by simp[hx]) (by omega) ?_;generalize φ x=r at hc hs;obtain⟨a,b,c,⟨e1,e2,e3⟩,⟨x1,x2,x3,x4,x5,x6,x7,x8⟩⟩:=x;(conv=>whnf);refine apc hc ?_;(conv=>whnf);refine asplit ?_ ?_<;>intro h2<;>conv=>whnf
  ·rw[ne0 h2,cond_false]at hs
   exact .inl (pi hs)
  ·rw[eq0 h2,cond_true]at hs
   exact⟨hk1,(),⟨rfl,rfl,rfl,rfl⟩,hs⟩
 ·have hk1:=ix_ff h1 (by simp) hk (by omega)
  rw[hk1,List.drop_length,eachF]at hs;exact .inl (pi hs)
theorem eachMk (l:List LMk) (f:Nat) (φ:LMk→Int) (hl:l.length≤1048576) (h:∀x∈l,APure Tryz.prog f [.p (elMk x)] (.p (.i .i64 (φ x)))) (R:Int) (hR:eachF φ l=R):
 APure Tryz.prog 110 [.p (.sl 2 (l.map elMk)),.fn f [] []] (.p (.i .i64 R)):=by
 refine APure.intro (tyOf_ok Tryz.prog) hmix Tryz.func110 rfl (by rfl) (by kernel_rfl) (by show 2≤_;decide) rfl ?_;(conv=>whnf);refine loopS (tyOf_ok _) hmix (by kernel_rfl) l.length [1,8,9,10] [] (fun k _=>[.fn f [] [],.p (.sl 2 (l.map elMk)),.p (.i .i64 (l.map elMk).length),.p (.i .i64 (ix k))]) (fun _ _=>[]) (fun k _=>eachF φ (l.drop k)=R) () ⟨rfl,rfl,rfl,rfl⟩ hR ?_;intro k s hk hs;(conv=>whnf);refine asplit ?_ ?_<;>intro h1<;>conv=>whnf
 ·have hk1:=ix_tt h1 (by simp) hk (by omega)
  obtain⟨x,hx⟩:∃b,l[k]?=some b:=⟨_,List.getElem?_eq_getElem hk1⟩
  have hc:=h x (List.mem_of_getElem? hx);rw[eachF_drop φ l k x hx]at hs;refine aidxk (x:=elMk x) (by simp[hx]) (by omega) ?_;generalize φ x=r at hc hs;obtain⟨a,b⟩:=x;(conv=>whnf);refine apc hc ?_;(conv=>whnf);refine asplit ?_ ?_<;>intro h2<;>conv=>whnf
  ·rw[ne0 h2,cond_false]at hs
   exact .inl (pi hs)
  ·rw[eq0 h2,cond_true]at hs
   exact⟨hk1,(),⟨rfl,rfl,rfl,rfl⟩,hs⟩
 ·have hk1:=ix_ff h1 (by simp) hk (by omega)
  rw[hk1,List.drop_length,eachF]at hs;exact .inl (pi hs)
theorem eachStr (l:List ByteArray) (f:Nat) (φ:ByteArray→Int) (hl:l.length≤1048576) (h:∀x∈l,APure Tryz.prog f [.p (eStr x)] (.p (.i .i64 (φ x)))) (R:Int) (hR:eachF φ l=R):
 APure Tryz.prog 137 [.p (.sl 1 (l.map eStr)),.fn f [] []] (.p (.i .i64 R)):=by
 refine APure.intro (tyOf_ok Tryz.prog) hmix Tryz.func137 rfl (by rfl) (by kernel_rfl) (by show 2≤_;decide) rfl ?_;(conv=>whnf);refine loopS (tyOf_ok _) hmix (by kernel_rfl) l.length [1,8,9,10] [] (fun k _=>[.fn f [] [],.p (.sl 1 (l.map eStr)),.p (.i .i64 (l.map eStr).length),.p (.i .i64 (ix k))]) (fun _ _=>[]) (fun k _=>eachF φ (l.drop k)=R) () ⟨rfl,rfl,rfl,rfl⟩ hR ?_;intro k s hk hs;(conv=>whnf);refine asplit ?_ ?_<;>intro h1<;>conv=>whnf
 ·have hk1:=ix_tt h1 (by simp) hk (by omega)
  obtain⟨x,hx⟩:∃b,l[k]?=some b:=⟨_,List.getElem?_eq_getElem hk1⟩
  have hc:=h x (List.mem_of_getElem? hx);rw[eachF_drop φ l k x hx]at hs;refine aidxk (x:=eStr x) (by simp[hx]) (by omega) ?_;generalize φ x=r at hc hs;obtain⟨a⟩:=x;(conv=>whnf);refine apc hc ?_;(conv=>whnf);refine asplit ?_ ?_<;>intro h2<;>conv=>whnf
  ·rw[ne0 h2,cond_false]at hs
   exact .inl (pi hs)
  ·rw[eq0 h2,cond_true]at hs
   exact⟨hk1,(),⟨rfl,rfl,rfl,rfl⟩,hs⟩
 ·have hk1:=ix_ff h1 (by simp) hk (by omega)
  rw[hk1,List.drop_length,eachF]at hs;exact .inl (pi hs)
theorem eachTy (l:List Ty) (f:Nat) (φ:Ty→Int) (hl:l.length≤1048576) (h:∀x∈l,APure Tryz.prog f [.p (eT x)] (.p (.i .i64 (φ x)))) (R:Int) (hR:eachF φ l=R):
 APure Tryz.prog 139 [.p (.sl 3 (l.map eT)),.fn f [] []] (.p (.i .i64 R)):=by
 refine APure.intro (tyOf_ok Tryz.prog) hmix Tryz.func139 rfl (by rfl) (by kernel_rfl) (by show 2≤_;decide) rfl ?_;(conv=>whnf);refine loopS (tyOf_ok _) hmix (by kernel_rfl) l.length [1,8,9,10] [] (fun k _=>[.fn f [] [],.p (.sl 3 (l.map eT)),.p (.i .i64 (l.map eT).length),.p (.i .i64 (ix k))]) (fun _ _=>[]) (fun k _=>eachF φ (l.drop k)=R) () ⟨rfl,rfl,rfl,rfl⟩ hR ?_;intro k s hk hs;(conv=>whnf);refine asplit ?_ ?_<;>intro h1<;>conv=>whnf
 ·have hk1:=ix_tt h1 (by simp) hk (by omega)
  obtain⟨x,hx⟩:∃b,l[k]?=some b:=⟨_,List.getElem?_eq_getElem hk1⟩
  have hc:=h x (List.mem_of_getElem? hx);rw[eachF_drop φ l k x hx]at hs;refine aidxk (x:=eT x) (by simp[hx]) (by omega) ?_;generalize φ x=r at hc hs;obtain⟨a,b,c⟩:=x;(conv=>whnf);refine apc hc ?_;(conv=>whnf);refine asplit ?_ ?_<;>intro h2<;>conv=>whnf
  ·rw[ne0 h2,cond_false]at hs
   exact .inl (pi hs)
  ·rw[eq0 h2,cond_true]at hs
   exact⟨hk1,(),⟨rfl,rfl,rfl,rfl⟩,hs⟩
 ·have hk1:=ix_ff h1 (by simp) hk (by omega)
  rw[hk1,List.drop_length,eachF]at hs;exact .inl (pi hs)
theorem eachPt (l:List Pt) (f:Nat) (φ:Pt→Int) (hl:l.length≤1048576) (h:∀x∈l,APure Tryz.prog f [.p (eP x)] (.p (.i .i64 (φ x)))) (R:Int) (hR:eachF φ l=R):
 APure Tryz.prog 189 [.p (.sl 4 (l.map eP)),.fn f [] []] (.p (.i .i64 R)):=by
 refine APure.intro (tyOf_ok Tryz.prog) hmix Tryz.func189 rfl (by rfl) (by kernel_rfl) (by show 2≤_;decide) rfl ?_;(conv=>whnf);refine loopS (tyOf_ok _) hmix (by kernel_rfl) l.length [1,8,9,10] [] (fun k _=>[.fn f [] [],.p (.sl 4 (l.map eP)),.p (.i .i64 (l.map eP).length),.p (.i .i64 (ix k))]) (fun _ _=>[]) (fun k _=>eachF φ (l.drop k)=R) () ⟨rfl,rfl,rfl,rfl⟩ hR ?_;intro k s hk hs;(conv=>whnf);refine asplit ?_ ?_<;>intro h1<;>conv=>whnf
 ·have hk1:=ix_tt h1 (by simp) hk (by omega)
  obtain⟨x,hx⟩:∃b,l[k]?=some b:=⟨_,List.getElem?_eq_getElem hk1⟩
  have hc:=h x (List.mem_of_getElem? hx);rw[eachF_drop φ l k x hx]at hs;refine aidxk (x:=eP x) (by simp[hx]) (by omega) ?_;generalize φ x=r at hc hs;obtain⟨a,b,c,d⟩:=x;(conv=>whnf);refine apc hc ?_;(conv=>whnf);refine asplit ?_ ?_<;>intro h2<;>conv=>whnf
  ·rw[ne0 h2,cond_false]at hs
   exact .inl (pi hs)
  ·rw[eq0 h2,cond_true]at hs
   exact⟨hk1,(),⟨rfl,rfl,rfl,rfl⟩,hs⟩
 ·have hk1:=ix_ff h1 (by simp) hk (by omega)
  rw[hk1,List.drop_length,eachF]at hs;exact .inl (pi hs)
theorem eachvTy (l:List Ty) (f:Nat) (lv:Nat) (φ:Ty→Int) (hl:l.length≤1048576) (h:∀x∈l,AMem Tryz.prog f [.p (eT x),.ptr 1000000000 0] [(1000000000,.cells [.p (.i .i64 (lv:Nat))])] (.p (.i .i64 (φ x))) [(1000000000,.cells [.p (.i .i64 (lv:Nat))])]) (R:Int) (hR:eachF φ l=R):
 AMem Tryz.prog 139 [.p (.sl 3 (l.map eT)),.fn f [] [.ptr 1000000000 0]] [(1000000000,.cells [.p (.i .i64 (lv:Nat))])] (.p (.i .i64 R)) [(1000000000,.cells [.p (.i .i64 (lv:Nat))])]:=by
 refine AMem.intro (tyOf_ok Tryz.prog) hmix Tryz.func139 rfl (by rfl) (by kernel_rfl) (by show 2≤_;decide) rfl ?_;(conv=>whnf);refine loopS (tyOf_ok _) hmix (by kernel_rfl) l.length [1,8,9,10] [1000000000] (fun k _=>[.fn f [] [.ptr 1000000000 0],.p (.sl 3 (l.map eT)),.p (.i .i64 (l.map eT).length),.p (.i .i64 (ix k))]) (fun _ _=>[.cells [.p (.i .i64 (lv:Nat))]]) (fun k _=>eachF φ (l.drop k)=R) () ⟨rfl,rfl,rfl,rfl⟩ hR ?_;intro k s hk hs;(conv=>whnf);refine asplit ?_ ?_<;>intro h1<;>conv=>whnf
 ·have hk1:=ix_tt h1 (by simp) hk (by omega)
  obtain⟨x,hx⟩:∃b,l[k]?=some b:=⟨_,List.getElem?_eq_getElem hk1⟩
  have hc:=h x (List.mem_of_getElem? hx);rw[eachF_drop φ l k x hx]at hs;refine aidxk (x:=eT x) (by simp[hx]) (by omega) ?_;generalize φ x=r at hc hs;obtain⟨a,b,c⟩:=x;(conv=>whnf);refine amc [1000000000] 10000 hc ?_;(conv=>whnf);refine asplit ?_ ?_<;>intro h2<;>conv=>whnf
  ·rw[ne0 h2,cond_false]at hs
   exact⟨.inl (pi hs),⟨.inl rfl,trivial⟩,trivial⟩
  ·rw[eq0 h2,cond_true]at hs
   exact⟨hk1,(),⟨rfl,rfl,rfl,rfl⟩,hs⟩
 ·have hk1:=ix_ff h1 (by simp) hk (by omega)
  rw[hk1,List.drop_length,eachF]at hs;exact⟨.inl (pi hs),⟨.inl rfl,trivial⟩,trivial⟩
theorem eachvEx (l:List Ex) (f:Nat) (be:Bool) (φ:Ex→Int) (hl:l.length≤1048576) (h:∀x∈l,AMem Tryz.prog f [.p (eE x),.ptr 1000000000 0] [(1000000000,.cells [.p (.b be)])] (.p (.i .i64 (φ x))) [(1000000000,.cells [.p (.b be)])]) (R:Int) (hR:eachF φ l=R):
 AMem Tryz.prog 168 [.p (.sl 8 (l.map eE)),.fn f [] [.ptr 1000000000 0]] [(1000000000,.cells [.p (.b be)])] (.p (.i .i64 R)) [(1000000000,.cells [.p (.b be)])]:=by
 refine AMem.intro (tyOf_ok Tryz.prog) hmix Tryz.func168 rfl (by rfl) (by kernel_rfl) (by show 2≤_;decide) rfl ?_;(conv=>whnf);refine loopS (tyOf_ok _) hmix (by kernel_rfl) l.length [1,8,9,10] [1000000000] (fun k _=>[.fn f [] [.ptr 1000000000 0],.p (.sl 8 (l.map eE)),.p (.i .i64 (l.map eE).length),.p (.i .i64 (ix k))]) (fun _ _=>[.cells [.p (.b be)]]) (fun k _=>eachF φ (l.drop k)=R) () ⟨rfl,rfl,rfl,rfl⟩ hR ?_;intro k s hk hs;(conv=>whnf);refine asplit ?_ ?_<;>intro h1<;>conv=>whnf
 ·have hk1:=ix_tt h1 (by simp) hk (by omega)
  obtain⟨x,hx⟩:∃b,l[k]?=some b:=⟨_,List.getElem?_eq_getElem hk1⟩
  have hc:=h x (List.mem_of_getElem? hx);rw[eachF_drop φ l k x hx]at hs;refine aidxk (x:=eE x) (by simp[hx]) (by omega) ?_;generalize φ x=r at hc hs;obtain⟨x1,x2,x3,x4,x5,x6,x7,x8⟩:=x;(conv=>whnf);refine amc [1000000000] 10000 hc ?_;(conv=>whnf);refine asplit ?_ ?_<;>intro h2<;>conv=>whnf
  ·rw[ne0 h2,cond_false]at hs
   exact⟨.inl (pi hs),⟨.inl rfl,trivial⟩,trivial⟩
  ·rw[eq0 h2,cond_true]at hs
   exact⟨hk1,(),⟨rfl,rfl,rfl,rfl⟩,hs⟩
 ·have hk1:=ix_ff h1 (by simp) hk (by omega)
  rw[hk1,List.drop_length,eachF]at hs;exact⟨.inl (pi hs),⟨.inl rfl,trivial⟩,trivial⟩
theorem eachvAr (l:List Arm) (f:Nat) (be:Bool) (φ:Arm→Int) (hl:l.length≤1048576) (h:∀x∈l,AMem Tryz.prog f [.p (eA x),.ptr 1000000000 0] [(1000000000,.cells [.p (.b be)])] (.p (.i .i64 (φ x))) [(1000000000,.cells [.p (.b be)])]) (R:Int) (hR:eachF φ l=R):
 AMem Tryz.prog 170 [.p (.sl 12 (l.map eA)),.fn f [] [.ptr 1000000000 0]] [(1000000000,.cells [.p (.b be)])] (.p (.i .i64 R)) [(1000000000,.cells [.p (.b be)])]:=by
 refine AMem.intro (tyOf_ok Tryz.prog) hmix Tryz.func170 rfl (by rfl) (by kernel_rfl) (by show 2≤_;decide) rfl ?_;(conv=>whnf);refine loopS (tyOf_ok _) hmix (by kernel_rfl) l.length [1,8,9,10] [1000000000] (fun k _=>[.fn f [] [.ptr 1000000000 0],.p (.sl 12 (l.map eA)),.p (.i .i64 (l.map eA).length),.p (.i .i64 (ix k))]) (fun _ _=>[.cells [.p (.b be)]]) (fun k _=>eachF φ (l.drop k)=R) () ⟨rfl,rfl,rfl,rfl⟩ hR ?_;intro k s hk hs;(conv=>whnf);refine asplit ?_ ?_<;>intro h1<;>conv=>whnf
 ·have hk1:=ix_tt h1 (by simp) hk (by omega)
  obtain⟨x,hx⟩:∃b,l[k]?=some b:=⟨_,List.getElem?_eq_getElem hk1⟩
  have hc:=h x (List.mem_of_getElem? hx);rw[eachF_drop φ l k x hx]at hs;refine aidxk (x:=eA x) (by simp[hx]) (by omega) ?_;generalize φ x=r at hc hs;obtain⟨⟨a,b,c,d⟩,⟨x1,x2,x3,x4,x5,x6,x7,x8⟩⟩:=x;(conv=>whnf);refine amc [1000000000] 10000 hc ?_;(conv=>whnf);refine asplit ?_ ?_<;>intro h2<;>conv=>whnf
  ·rw[ne0 h2,cond_false]at hs
   exact⟨.inl (pi hs),⟨.inl rfl,trivial⟩,trivial⟩
  ·rw[eq0 h2,cond_true]at hs
   exact⟨hk1,(),⟨rfl,rfl,rfl,rfl⟩,hs⟩
 ·have hk1:=ix_ff h1 (by simp) hk (by omega)
  rw[hk1,List.drop_length,eachF]at hs;exact⟨.inl (pi hs),⟨.inl rfl,trivial⟩,trivial⟩
end TR
open Go Go.AM Go.Proofs
set_option maxRecDepth 100000
namespace TR
theorem isS_eq (s:ByteArray) (l:Bs):(s.toList==ByteArray.toList ⟨l.toArray⟩)=isS s l:=by
 have h:=B_beq s.data.toList l;rw[←B_of]at h;exact h
theorem lowB_spec (s:ByteArray) (h:s.size≤1048576):APure Tryz.prog 62 [.p (.s s)] (.p (.b (lowB s))):=by
 have hl:s.data.toList.length≤1048576:=by rw[Array.length_toList];exact h
 have:=TK.low_spec s.data.toList hl;rw[←B_of]at this;exact this
theorem upB_spec (s:ByteArray) (h:s.size≤1048576):APure Tryz.prog 85 [.p (.s s)] (.p (.b (upB s))):=by
 have hl:s.data.toList.length≤1048576:=by rw[Array.length_toList];exact h
 have:=TK.up_spec s.data.toList hl;rw[←B_of]at this;exact this
theorem when_spec (b:Bool) (x:Int):APure Tryz.prog 106 [.p (.b b),.p (.i .i64 x)] (.p (.i .i64 (whenF b x))):=by
 refine APure.intro (tyOf_ok Tryz.prog) hmix Tryz.func106 rfl (by rfl) (by kernel_rfl) (by show 2≤_;decide) rfl ?_;(conv=>whnf);refine asplit ?_ ?_<;>intro h<;>conv=>whnf
 ·exact .inl (pi (by rw[h];rfl))
 ·exact .inl (pi (by rw[h];rfl))
theorem plain_spec (n:Int):APure Tryz.prog 63 [.p (.i .i64 n)] (.p (.b (plainF n))):=by
 refine APure.intro (tyOf_ok Tryz.prog) hmix Tryz.func63 rfl (by rfl) (by kernel_rfl) (by show 1≤_;decide) rfl ?_;(conv=>whnf);refine asplit ?_ ?_<;>intro h<;>conv=>whnf
 ·exact .inl (pb (by rw[plainF,h];rfl))
 ·exact .inl (pb (by rw[plainF,h];rfl))
theorem built_spec (s:ByteArray):APure Tryz.prog 107 [.p (.s s)] (.p (.b (builtB s))):=by
 have e1:=isS_eq s [82,101,102];have e2:=isS_eq s [67,101,108,108];refine APure.intro (tyOf_ok Tryz.prog) hmix Tryz.func107 rfl (by rfl) (by kernel_rfl) (by show 1≤_;decide) rfl ?_;(conv=>whnf);refine asplit ?_ ?_<;>intro h<;>conv=>whnf
 ·exact .inl (pb (by rw[builtB,←e1,show(s.toList==ByteArray.toList ⟨[82,101,102].toArray⟩)=true from h];rfl))
 ·exact .inl (pb (by rw[builtB,←e1,←e2,show(s.toList==ByteArray.toList ⟨[82,101,102].toArray⟩)=false from h];rfl))
theorem or_spec (l:List Int) (hl:l.length≤1048576) (R:Int) (hR:orF l=R):APure Tryz.prog 108 [.p (.sl 1 (l.map vI))] (.p (.i .i64 R)):=by
 refine APure.intro (tyOf_ok Tryz.prog) hmix Tryz.func108 rfl (by rfl) (by kernel_rfl) (by show 1≤_;decide) rfl ?_;(conv=>whnf);refine loopS (tyOf_ok _) hmix (by kernel_rfl) l.length [3,6,7,8] [] (fun k _=>[.p (.i .i64 0),.p (.sl 1 (l.map vI)),.p (.i .i64 (l.map vI).length),.p (.i .i64 (ix k))]) (fun _ _=>[]) (fun k _=>orF (l.drop k)=R) () ⟨rfl,rfl,rfl,rfl⟩ hR ?_;intro k s hk hs;(conv=>whnf);refine asplit ?_ ?_<;>intro h1<;>conv=>whnf
 ·have hk1:=ix_tt h1 (by simp) hk (by omega)
  obtain⟨x,hx⟩:∃b,l[k]?=some b:=⟨_,List.getElem?_eq_getElem hk1⟩
  rw[orF,eachF_drop id l k x hx]at hs;refine aidxk (x:=vI x) (by simp[hx]) (by omega) ?_;(conv=>whnf);refine asplit ?_ ?_<;>intro h2<;>conv=>whnf
  ·rw[show(id x==0)=false from ne0 h2,cond_false]at hs
   exact .inl (pi hs)
  ·rw[show(id x==0)=true from eq0 h2,cond_true]at hs
   exact⟨hk1,(),⟨rfl,rfl,rfl,rfl⟩,hs⟩
 ·have hk1:=ix_ff h1 (by simp) hk (by omega)
  rw[hk1,List.drop_length,orF,eachF]at hs;exact .inl (pi hs)
theorem rUse_spec (u:LUse) (hu:PV.wt (elUse u)≤1048576):APure Tryz.prog 65 [.p (elUse u)] (.p (.i .i64 (rUse u))):=by
 rw[wlUse_eq]at hu;obtain⟨nm,lo,hi⟩:=u;have h1:=lowB_spec nm (by simp only at hu;omega);have h2:=plain_spec lo;have h3:=plain_spec hi
 have hw:∀b,(!lowB nm||(!plainF lo||(!plainF hi||decide (lo>hi))))=b→APure Tryz.prog 106 [.p (.b b),.p (.i .i64 3)] (.p (.i .i64 (rUse ⟨nm,lo,hi⟩))):=fun b hb=>by
  rw[rUse,hb];exact when_spec b 3
 generalize rUse ⟨nm,lo,hi⟩=R at hw;generalize lowB nm=a at *;generalize plainF lo=b at *;generalize plainF hi=c at *;refine APure.intro (tyOf_ok Tryz.prog) hmix Tryz.func65 rfl (by rfl) (by kernel_rfl) (by show 1≤_;decide) rfl ?_;(conv=>whnf);refine apc h1 ?_;(conv=>whnf);refine asplit ?_ ?_<;>intro g1<;>conv=>whnf
 ·refine apc (hw _ (by rw[g1];rfl)) ?_
  (conv=>whnf);exact .inl rfl
 refine apc h2 ?_;(conv=>whnf);refine asplit ?_ ?_<;>intro g2<;>conv=>whnf
 ·refine apc (hw _ (by rw[g1,g2];rfl)) ?_
  (conv=>whnf);exact .inl rfl
 refine apc h3 ?_;(conv=>whnf);refine asplit ?_ ?_<;>intro g3<;>conv=>whnf
 ·refine apc (hw _ (by rw[g1,g2,g3];rfl)) ?_
  (conv=>whnf);exact .inl rfl
 refine apc (hw _ (by rw[g1,g2,g3];rfl)) ?_;(conv=>whnf);exact .inl rfl
theorem name1_spec (s:ByteArray) (h:s.size≤1048576):APure Tryz.prog 138 [.p (eStr s)] (.p (.i .i64 (whenF (!lowB s) 3))):=by
 have h1:=lowB_spec s h;have h2:=when_spec (!lowB s) 3;generalize lowB s=b at *;generalize whenF (!b) 3=R at *;refine APure.intro (tyOf_ok Tryz.prog) hmix Tryz.func138 rfl (by rfl) (by kernel_rfl) (by show 1≤_;decide) rfl ?_;(conv=>whnf);refine apc h1 ?_;(conv=>whnf);refine apc h2 ?_;(conv=>whnf);exact .inl rfl
theorem str_mem {s:ByteArray} {l:List ByteArray} (h:s∈l):s.size+1≤PV.wts (l.map eStr):=by
 have:=l_mem eStr h;simpa[eStr,PV.wt] using this
theorem names_spec (l:List ByteArray) (hl:PV.wts (l.map eStr)≤1048576):APure Tryz.prog 109 [.p (.sl 1 (l.map eStr))] (.p (.i .i64 (rNames l))):=by
 have hlen:=wSs_len l;have hc:=eachStr l 138 (fun s=>whenF (!lowB s) 3) (by omega) (fun s hs=>name1_spec s (by have:=str_mem hs;omega)) _ rfl;have hR:rNames l=bif decide (l.length>6) then 2 else eachF (fun s=>whenF (!lowB s) 3) l:=rfl
 generalize eachF (fun s=>whenF (!lowB s) 3) l=E at *;generalize rNames l=R at *;refine APure.intro (tyOf_ok Tryz.prog) hmix Tryz.func109 rfl (by rfl) (by kernel_rfl) (by show 1≤_;decide) rfl ?_;(conv=>whnf);refine asplit ?_ ?_<;>intro h1<;>conv=>whnf
 ·rw[List.length_map]at h1
  rw[show decide (l.length>6)=true by have:=of_decide_eq_true h1;exact decide_eq_true (by omega),cond_true]at hR;exact .inl (pi hR.symm)
 ·rw[List.length_map]at h1
  rw[show decide (l.length>6)=false by have:=of_decide_eq_false h1;exact decide_eq_false (by omega),cond_false]at hR;refine apc hc ?_;(conv=>whnf);exact .inl (pi hR.symm)
theorem type1_of (t:Ty) (lv:Nat) (hlv:lv≤40) (R:Int) (h:APure Tryz.prog 116 [.p (eT t),.p (.i .i64 (lv+1:Nat))] (.p (.i .i64 R))):
 AMem Tryz.prog 144 [.p (eT t),.ptr 1000000000 0] [(1000000000,.cells [.p (.i .i64 lv)])] (.p (.i .i64 R)) [(1000000000,.cells [.p (.i .i64 lv)])]:=by
 have w1:IntKind.i64.wrap ((lv:Int)+1)=((lv+1:Nat):Int):=by rw[wrap64 (by omega) (by omega)];omega
 rw[←w1]at h;obtain⟨k,n,xs⟩:=t;refine AMem.intro (tyOf_ok Tryz.prog) hmix Tryz.func144 rfl (by rfl) (by kernel_rfl) (by show 2≤_;decide) rfl ?_;(conv=>whnf);refine apc h ?_;(conv=>whnf);exact⟨.inl rfl,⟨.inl rfl,trivial⟩,trivial⟩
theorem type_of (k:Int) (n:ByteArray) (xs:List Ty) (lv:Nat) (hlv:lv≤41) (hn:n.size≤1048576) (hx:xs.length≤1048576) (ih:lv≤40→∀x∈xs,APure Tryz.prog 116 [.p (eT x),.p (.i .i64 (lv+1:Nat))] (.p (.i .i64 (rT x (lv+1))))):
 APure Tryz.prog 116 [.p (eT (.mk k n xs)),.p (.i .i64 lv)] (.p (.i .i64 (rT (.mk k n xs) lv))):=by
 have hR:rT (.mk k n xs) lv=bif decide (lv>40) then 2 else bif decide (k<1)||decide (k>9) then 3 else bif decide (xs.length>7) then 2 else bif goodT k n xs.length then rTs xs (lv+1) else 3:=by rw[rT]
 generalize rT (.mk k n xs) lv=R at *;have p1:=lowB_spec n hn;have p2:=upB_spec n hn;have p3:=built_spec n;have e0:=isS_eq n [];have e1:=isS_eq n [115,101,108,102];have hxl:=eTs_len xs;refine APure.intro (tyOf_ok Tryz.prog) hmix Tryz.func116 rfl (by rfl) (by kernel_rfl) (by show 2≤_;decide) rfl ?_;(conv=>whnf);refine asplit ?_ ?_<;>intro h1<;>conv=>whnf
 ·rw[show decide (lv>40)=true by have:=of_decide_eq_true h1;exact decide_eq_true (by omega),cond_true]at hR
  exact .inl (pi hR.symm)
 have hlv:lv≤40:=by have:=of_decide_eq_false h1;omega
 rw[show decide (lv>40)=false from decide_eq_false (by omega),cond_false]at hR;have hc:=eachvTy xs 144 lv (fun x=>rT x (lv+1)) hx (fun x hx=>type1_of x lv hlv _ (ih hlv x hx)) _ rfl;rw[←eTs_map,←rTs_each]at hc;generalize rTs xs (lv+1)=E at *;refine asplit ?_ ?_<;>intro h2<;>conv=>whnf
 ·rw[h2,Bool.true_or,cond_true]at hR
  exact .inl (pi hR.symm)
 rw[h2,Bool.false_or]at hR;refine asplit ?_ ?_<;>intro h3<;>conv=>whnf
 ·rw[h3,cond_true]at hR
  exact .inl (pi hR.symm)
 rw[h3,cond_false]at hR;rw[hxl];refine asplit ?_ ?_<;>intro h4<;>conv=>whnf
 ·rw[show decide (xs.length>7)=true by have:=of_decide_eq_true h4;exact decide_eq_true (by omega),cond_true]at hR
  exact .inl (pi hR.symm)
 rw[show decide (xs.length>7)=false by have:=of_decide_eq_false h4;exact decide_eq_false (by omega),cond_false]at hR;clear h1 h2 h3 h4
 have z0:∀m:Nat,((xs.length:Int)==(m:Int))=(xs.length==m):=fun m=>by
  by_cases q:xs.length=m
  ·subst q;simp
  ·rw[show(xs.length==m)=false by simpa using q];simpa using fun h=>q (by omega)
 refine asplit ?_ ?_<;>intro k5<;>conv=>whnf
 ·rw[hxl]
  refine asplit ?_ ?_<;>intro g1<;>conv=>whnf
  ·have g1:(xs.length==0)=true:=by rw[←z0];exact g1
   refine apc p1 ?_;(conv=>whnf);refine asplit ?_ ?_<;>intro g2<;>conv=>whnf
   ·rw[show goodT k n xs.length=true by(rw[goodT,k5,cond_true,g1,g2];rfl),cond_true]at hR
    refine amc [3] 10000 hc ?_;(conv=>whnf);exact .inl (pi hR.symm)
   ·refine asplit ?_ ?_<;>intro q<;>conv=>whnf
    ·have q:(n.toList==ByteArray.toList ⟨[115,101,108,102].toArray⟩)=false:=by simpa using q
     rw[show goodT k n xs.length=false by(rw[goodT,k5,cond_true,g1,g2,←e1,q];rfl),cond_false]at hR;exact .inl (pi hR.symm)
    ·have q:(n.toList==ByteArray.toList ⟨[115,101,108,102].toArray⟩)=true:=by simpa using q
     rw[show goodT k n xs.length=true by(rw[goodT,k5,cond_true,g1,g2,←e1,q];rfl),cond_true]at hR;refine amc [3] 10000 hc ?_;(conv=>whnf);exact .inl (pi hR.symm)
  ·have g1:(xs.length==0)=false:=by rw[←z0];exact g1
   rw[show goodT k n xs.length=false by(rw[goodT,k5,cond_true,g1];rfl),cond_false]at hR;exact .inl (pi hR.symm)
 refine asplit ?_ ?_<;>intro k6<;>conv=>whnf
 ·refine apc p2 ?_
  (conv=>whnf);refine asplit ?_ ?_<;>intro g1<;>conv=>whnf
  ·refine apc p3 ?_
   (conv=>whnf);refine asplit ?_ ?_<;>intro g2<;>conv=>whnf
   ·rw[hxl]
    refine asplit ?_ ?_<;>intro g3<;>conv=>whnf
    ·have g3:decide (xs.length≤6)=false:=by rw[Bool.not_eq_true']at g3;have:=of_decide_eq_false g3;exact decide_eq_false (by omega)
     rw[show goodT k n xs.length=false by(rw[goodT,k5,cond_false,k6,cond_true,g1,g2,g3];rfl),cond_false]at hR;exact .inl (pi hR.symm)
    ·have g3:decide (xs.length≤6)=true:=by rw[Bool.not_eq_false']at g3;have:=of_decide_eq_true g3;exact decide_eq_true (by omega)
     rw[show goodT k n xs.length=true by(rw[goodT,k5,cond_false,k6,cond_true,g1,g2,g3];rfl),cond_true]at hR;refine amc [3] 10000 hc ?_;(conv=>whnf);exact .inl (pi hR.symm)
   ·rw[show goodT k n xs.length=false by(rw[goodT,k5,cond_false,k6,cond_true,g1,g2];rfl),cond_false]at hR
    exact .inl (pi hR.symm)
  ·rw[show goodT k n xs.length=false by(rw[goodT,k5,cond_false,k6,cond_true,g1];rfl),cond_false]at hR
   exact .inl (pi hR.symm)
 refine asplit ?_ ?_<;>intro k7<;>conv=>whnf
 ·rw[hxl]
  refine asplit ?_ ?_<;>intro g1<;>conv=>whnf
  ·have g1:decide (xs.length>0)=true:=by have:=of_decide_eq_true g1;exact decide_eq_true (by omega)
   refine asplit ?_ ?_<;>intro g2<;>conv=>whnf
   ·have g2:(n.toList==ByteArray.toList ⟨#[]⟩)=false:=by simpa using g2
    rw[show goodT k n xs.length=false by(rw[goodT,k5,cond_false,k6,cond_false,k7,cond_true,g1,←e0,show(n.toList==ByteArray.toList ⟨([]:Bs).toArray⟩)=false from g2];rfl),cond_false]at hR;exact .inl (pi hR.symm)
   ·have g2:(n.toList==ByteArray.toList ⟨#[]⟩)=true:=by simpa using g2
    rw[show goodT k n xs.length=true by(rw[goodT,k5,cond_false,k6,cond_false,k7,cond_true,g1,←e0,show(n.toList==ByteArray.toList ⟨([]:Bs).toArray⟩)=true from g2];rfl),cond_true]at hR;refine amc [3] 10000 hc ?_;(conv=>whnf);exact .inl (pi hR.symm)
  ·have g1:decide (xs.length>0)=false:=by have:=of_decide_eq_false g1;exact decide_eq_false (by omega)
   rw[show goodT k n xs.length=false by(rw[goodT,k5,cond_false,k6,cond_false,k7,cond_true,g1];rfl),cond_false]at hR;exact .inl (pi hR.symm)
 refine asplit ?_ ?_<;>intro k8<;>conv=>whnf
 ·refine ast k8 ?_
  (conv=>whnf);rw[hxl];refine asplit ?_ ?_<;>intro g1<;>conv=>whnf
  ·have g1:(xs.length==1)=true:=by rw[←z0];exact g1
   refine asplit ?_ ?_<;>intro g2<;>conv=>whnf
   ·have g2:(n.toList==ByteArray.toList ⟨#[]⟩)=false:=by simpa using g2
    rw[show goodT k n xs.length=false by(rw[goodT,k5,cond_false,k6,cond_false,k7,cond_false,k8,Bool.true_or,cond_true,g1,←e0,show(n.toList==ByteArray.toList ⟨([]:Bs).toArray⟩)=false from g2];rfl),cond_false]at hR;exact .inl (pi hR.symm)
   ·have g2:(n.toList==ByteArray.toList ⟨#[]⟩)=true:=by simpa using g2
    rw[show goodT k n xs.length=true by(rw[goodT,k5,cond_false,k6,cond_false,k7,cond_false,k8,Bool.true_or,cond_true,g1,←e0,show(n.toList==ByteArray.toList ⟨([]:Bs).toArray⟩)=true from g2];rfl),cond_true]at hR;refine amc [3] 10000 hc ?_;(conv=>whnf);exact .inl (pi hR.symm)
  ·have g1:(xs.length==1)=false:=by rw[←z0];exact g1
   rw[show goodT k n xs.length=false by(rw[goodT,k5,cond_false,k6,cond_false,k7,cond_false,k8,Bool.true_or,cond_true,g1];rfl),cond_false]at hR;exact .inl (pi hR.symm)
 refine asplit ?_ ?_<;>intro k9<;>conv=>whnf
 ·rw[hxl]
  refine asplit ?_ ?_<;>intro g1<;>conv=>whnf
  ·have g1:(xs.length==1)=true:=by rw[←z0];exact g1
   refine asplit ?_ ?_<;>intro g2<;>conv=>whnf
   ·have g2:(n.toList==ByteArray.toList ⟨#[]⟩)=false:=by simpa using g2
    rw[show goodT k n xs.length=false by(rw[goodT,k5,cond_false,k6,cond_false,k7,cond_false,k8,k9,Bool.false_or,cond_true,g1,←e0,show(n.toList==ByteArray.toList ⟨([]:Bs).toArray⟩)=false from g2];rfl),cond_false]at hR;exact .inl (pi hR.symm)
   ·have g2:(n.toList==ByteArray.toList ⟨#[]⟩)=true:=by simpa using g2
    rw[show goodT k n xs.length=true by(rw[goodT,k5,cond_false,k6,cond_false,k7,cond_false,k8,k9,Bool.false_or,cond_true,g1,←e0,show(n.toList==ByteArray.toList ⟨([]:Bs).toArray⟩)=true from g2];rfl),cond_true]at hR;refine amc [3] 10000 hc ?_;(conv=>whnf);exact .inl (pi hR.symm)
  ·have g1:(xs.length==1)=false:=by rw[←z0];exact g1
   rw[show goodT k n xs.length=false by(rw[goodT,k5,cond_false,k6,cond_false,k7,cond_false,k8,k9,Bool.false_or,cond_true,g1];rfl),cond_false]at hR;exact .inl (pi hR.symm)
 ·rw[hxl]
  refine asplit ?_ ?_<;>intro g1<;>conv=>whnf
  ·have g1:(xs.length==0)=true:=by rw[←z0];exact g1
   refine asplit ?_ ?_<;>intro g2<;>conv=>whnf
   ·have g2:(n.toList==ByteArray.toList ⟨#[]⟩)=false:=by simpa using g2
    rw[show goodT k n xs.length=false by(rw[goodT,k5,cond_false,k6,cond_false,k7,cond_false,k8,k9,Bool.false_or,cond_false,g1,←e0,show(n.toList==ByteArray.toList ⟨([]:Bs).toArray⟩)=false from g2];rfl),cond_false]at hR;exact .inl (pi hR.symm)
   ·have g2:(n.toList==ByteArray.toList ⟨#[]⟩)=true:=by simpa using g2
    rw[show goodT k n xs.length=true by(rw[goodT,k5,cond_false,k6,cond_false,k7,cond_false,k8,k9,Bool.false_or,cond_false,g1,←e0,show(n.toList==ByteArray.toList ⟨([]:Bs).toArray⟩)=true from g2];rfl),cond_true]at hR;refine amc [3] 10000 hc ?_;(conv=>whnf);exact .inl (pi hR.symm)
  ·have g1:(xs.length==0)=false:=by rw[←z0];exact g1
   rw[show goodT k n xs.length=false by(rw[goodT,k5,cond_false,k6,cond_false,k7,cond_false,k8,k9,Bool.false_or,cond_false,g1];rfl),cond_false]at hR;exact .inl (pi hR.symm)
theorem type_spec (t:Ty):wT t≤1048576→∀lv:Nat,lv≤41→APure Tryz.prog 116 [.p (eT t),.p (.i .i64 lv)] (.p (.i .i64 (rT t lv))):=
 Ty.ind (Q:=fun t=>wT t≤1048576→∀lv:Nat,lv≤41→APure Tryz.prog 116 [.p (eT t),.p (.i .i64 lv)] (.p (.i .i64 (rT t lv)))) (fun k n xs ih hw lv hlv=>by
  have hl:=wTs_len xs;rw[wT_mk]at hw;exact type_of k n xs lv hlv (by omega) (by omega) (fun h x hx=>ih x hx (by have:=wTs_mem hx;omega) (lv+1) (by omega))) t
theorem types1_spec (t:Ty) (hw:wT t≤1048576):APure Tryz.prog 140 [.p (eT t)] (.p (.i .i64 (rT t 1))):=by
 have h:APure Tryz.prog 116 [.p (eT t),.p (.i .i64 1)] (.p (.i .i64 (rT t 1))):=type_spec t hw 1 (by omega);generalize rT t 1=R at *;obtain⟨k,n,xs⟩:=t;refine APure.intro (tyOf_ok Tryz.prog) hmix Tryz.func140 rfl (by rfl) (by kernel_rfl) (by show 1≤_;decide) rfl ?_;(conv=>whnf);refine apc h ?_;(conv=>whnf);exact .inl rfl
theorem types_spec (l:List Ty) (hw:PV.wts (eTs l)≤1048576):APure Tryz.prog 112 [.p (.sl 3 (eTs l))] (.p (.i .i64 (rTypes l))):=by
 have hl:=wTs_len l;have hc:=eachTy l 140 (fun t=>rT t 1) (by omega) (fun x hx=>types1_spec x (by have:=wTs_mem hx;omega)) _ rfl;rw[rTypes];rw[←eTs_map]at hc;generalize eachF (fun t=>rT t 1) l=R at *;refine APure.intro (tyOf_ok Tryz.prog) hmix Tryz.func112 rfl (by rfl) (by kernel_rfl) (by show 1≤_;decide) rfl ?_;(conv=>whnf);refine apc hc ?_;(conv=>whnf);exact .inl rfl
end TR
open Go Go.AM Go.Proofs
set_option maxRecDepth 100000
namespace TR
def patText (k:Int) (t:ByteArray):Bool:=bif k==2 then lowB t else bif k==5 then true else bif k==6 then upB t else isS t []
def patNum (k m:Int):Bool:=bif k==3 then true else bif k==4 then (m==0||m==1) else m==0
mutual
def rP:Pt→Int
 |.mk k m t xs=>bif (k==5)&&decide (t.size>64) then 2 else bif decide (k<1)||decide (k>6) then 3 else bif !patText k t||(!patNum k m||(decide (xs.length>0)&&!(k==6))) then 3
  else bif decide (xs.length>6) then 2 else rPs xs
def rPs:List Pt→Int
 | []=>0
 |p::r=>bif rP p==0 then rPs r else rP p
end
theorem rPs_each:∀(l:List Pt),rPs l=eachF rP l
 | []=>by rw[rPs,eachF]
 |t::r=>by rw[rPs,eachF,rPs_each r]
theorem pat_of (k m:Int) (t:ByteArray) (xs:List Pt) (ht:t.size≤1048576) (hx:xs.length≤1048576) (ih:∀x∈xs,APure Tryz.prog 172 [.p (eP x)] (.p (.i .i64 (rP x)))):
 APure Tryz.prog 172 [.p (eP (.mk k m t xs))] (.p (.i .i64 (rP (.mk k m t xs)))):=by
 have hR:(bif (k==5)&&decide (t.size>64) then 2 else bif decide (k<1)||decide (k>6) then 3 else bif !patText k t||(!patNum k m||(decide (xs.length>0)&&!(k==6))) then 3
  else bif decide (xs.length>6) then 2 else rPs xs)=rP (.mk k m t xs):=by rw[rP]
 generalize rP (.mk k m t xs)=R at *;have hc:=eachPt xs 172 rP hx ih _ rfl;rw[←rPs_each,←ePs_map]at hc;have p1:=lowB_spec t ht;have p2:=upB_spec t ht;have e0:(t.toList==ByteArray.toList ⟨#[]⟩)=isS t []:=isS_eq t [];have hxl:=ePs_len xs;have z3:decide ((t.size:Int)>64)=decide (t.size>64):=decide_eq_decide.2 (by omega);generalize rPs xs=E at *;rw[patText]at hR;generalize isS t []=b0 at *;generalize lowB t=b1 at *;generalize upB t=b2 at *;refine APure.intro (tyOf_ok Tryz.prog) hmix Tryz.func172 rfl (by rfl) (by kernel_rfl) (by show 1≤_;decide) rfl ?_;(conv=>whnf);refine asplit ?_ ?_<;>intro g<;>conv=>whnf
 ·have hk:=eq_of_beq g
  subst hk;rw[z3];refine asplit ?_ ?_<;>intro h64<;>conv=>whnf
  ·exact .inl (pi (by rw[←hR,h64];rfl))
  rw[e0]
  first|refine aneed (.inl (by kernel_rfl)) ?_|refine aneed (by kernel_rfl) ?_
  conv=>whnf
  repeat' (refine asplit ?_ ?_<;>intro _<;>conv=>whnf)
  all_goals first
   |(refine .inl (pi ?_)
     first
      |(simp_all [patNum];done)
      |(simp_all [patNum];rw[←hR,decide_eq_true (by omega)];rfl))
   |(refine apc hc ?_
     (conv=>whnf);refine .inl (pi ?_)
     first
      |(simp_all [patNum];done)
      |(simp_all [patNum];rw[←hR,decide_eq_false (by omega)];rfl))
 rw[e0]
 first|refine aneed (.inl (by kernel_rfl)) ?_|refine aneed (by kernel_rfl) ?_
 (conv=>whnf);have g5:¬k=5:=by simpa using g
 refine asplit ?_ ?_<;>intro g<;>conv=>whnf
 ·have hk:=eq_of_beq g
  subst hk
  repeat' (refine asplit ?_ ?_<;>intro _<;>conv=>whnf)
  all_goals first
   |(refine .inl (pi ?_)
     first
      |(simp_all [patNum];done)
      |(simp_all [patNum];rw[←hR,decide_eq_true (by omega)];rfl))
   |(refine apc hc ?_
     (conv=>whnf);refine .inl (pi ?_)
     first
      |(simp_all [patNum];done)
      |(simp_all [patNum];rw[←hR,decide_eq_false (by omega)];rfl))
 have g1:¬k=1:=by simpa using g
 refine asplit ?_ ?_<;>intro g<;>conv=>whnf
 ·have hk:=eq_of_beq g
  subst hk;refine apc p1 ?_;(conv=>whnf)
  repeat' (refine asplit ?_ ?_<;>intro _<;>conv=>whnf)
  all_goals first
   |(refine .inl (pi ?_)
     first
      |(simp_all [patNum];done)
      |(simp_all [patNum];rw[←hR,decide_eq_true (by omega)];rfl))
   |(refine apc hc ?_
     (conv=>whnf);refine .inl (pi ?_)
     first
      |(simp_all [patNum];done)
      |(simp_all [patNum];rw[←hR,decide_eq_false (by omega)];rfl))
 have g2:¬k=2:=by simpa using g
 refine asplit ?_ ?_<;>intro g<;>conv=>whnf
 ·have hk:=eq_of_beq g
  subst hk
  repeat' (refine asplit ?_ ?_<;>intro _<;>conv=>whnf)
  all_goals first
   |(refine .inl (pi ?_)
     first
      |(simp_all [patNum];done)
      |(simp_all [patNum];rw[←hR,decide_eq_true (by omega)];rfl))
   |(refine apc hc ?_
     (conv=>whnf);refine .inl (pi ?_)
     first
      |(simp_all [patNum];done)
      |(simp_all [patNum];rw[←hR,decide_eq_false (by omega)];rfl))
 have g3:¬k=3:=by simpa using g
 refine asplit ?_ ?_<;>intro g<;>conv=>whnf
 ·have hk:=eq_of_beq g
  subst hk;refine asplit ?_ ?_<;>intro q1<;>conv=>whnf
  ·repeat' (refine asplit ?_ ?_<;>intro _<;>conv=>whnf)
   all_goals first
    |(refine .inl (pi ?_)
      first
       |(simp_all [patNum];done)
       |(simp_all [patNum];rw[←hR,decide_eq_true (by omega)];rfl))
    |(refine apc hc ?_
      (conv=>whnf);refine .inl (pi ?_)
      first
       |(simp_all [patNum];done)
       |(simp_all [patNum];rw[←hR,decide_eq_false (by omega)];rfl))
  ·repeat' (refine asplit ?_ ?_<;>intro _<;>conv=>whnf)
   all_goals first
    |(refine .inl (pi ?_)
      first
       |(simp_all [patNum];done)
       |(simp_all [patNum];rw[←hR,decide_eq_true (by omega)];rfl))
    |(refine apc hc ?_
      (conv=>whnf);refine .inl (pi ?_)
      first
       |(simp_all [patNum];done)
       |(simp_all [patNum];rw[←hR,decide_eq_false (by omega)];rfl))
 have g4:¬k=4:=by simpa using g
 refine asf (by simpa using g5) ?_;(conv=>whnf);refine asplit ?_ ?_<;>intro g<;>conv=>whnf
 ·have hk:=eq_of_beq g
  subst hk;refine apc p2 ?_;(conv=>whnf)
  repeat' (refine asplit ?_ ?_<;>intro _<;>conv=>whnf)
  all_goals first
   |(refine .inl (pi ?_)
     first
      |(simp_all [patNum];done)
      |(simp_all [patNum];rw[←hR,decide_eq_true (by omega)];rfl))
   |(refine apc hc ?_
     (conv=>whnf);refine .inl (pi ?_)
     first
      |(simp_all [patNum];done)
      |(simp_all [patNum];rw[←hR,decide_eq_false (by omega)];rfl))
 have g6:¬k=6:=by simpa using g
 refine .inl (pi ?_);rw[←hR,show(k==5)=false by simpa using g5,show(decide (k<1)||decide (k>6))=true by simp;omega];rfl
theorem pat_spec (p:Pt):wP p≤1048576→APure Tryz.prog 172 [.p (eP p)] (.p (.i .i64 (rP p))):=
 Pt.ind (Q:=fun p=>wP p≤1048576→APure Tryz.prog 172 [.p (eP p)] (.p (.i .i64 (rP p)))) (fun k n t xs ih hw=>by
  have hl:=wP_lens k n t xs;exact pat_of k n t xs (by omega) (by omega) (fun x hx=>ih x hx (by have:=wP_args (k:=k) (n:=n) (t:=t) hx;omega))) p
def opsC:Bs:=[43,32,45,32,42,32,47,32,37,32,60,32,61,32,94,32,97,110,100,32,111,114]
def opF (s:ByteArray) (n:Nat):Bool:=bif isS s [110,111,116] then n==1 else ((TK.splitF 32 opsC).contains s.data.toList&&n==2)
theorem op_aux (l:Bs) (n:Nat) (W:List Bs) (hW:W.length≤1048576) (hs:APure Tryz.prog 150 [.p (.s ⟨#[43,32,45,32,42,32,47,32,37,32,60,32,61,32,94,32,97,110,100,32,111,114]⟩),.p (.s ⟨#[32]⟩)] (.p (.sl 1 (W.map TK.eStr)))) (R:Bool) (hR:(bif l==[110,111,116] then n==1 else (W.contains l&&n==2))=R):
 APure Tryz.prog 188 [.p (.s (B l)),.p (.i .i64 n)] (.p (.b R)):=by
 have e1:((B l).toList==ByteArray.toList ⟨#[110,111,116]⟩)=(l==[110,111,116]):=B_beq l [110,111,116]
 have z0:∀m:Nat,((n:Int)==(m:Int))=(n==m):=fun m=>by
  by_cases q:n=m
  ·subst q;simp
  ·rw[show(n==m)=false by simpa using q];simpa using fun h=>q (by omega)
 refine APure.intro (tyOf_ok Tryz.prog) hmix Tryz.func188 rfl (by rfl) (by kernel_rfl) (by show 2≤_;decide) rfl ?_;(conv=>whnf);refine asplit ?_ ?_<;>intro h1<;>conv=>whnf
 ·rw[e1]at h1
  rw[h1,cond_true]at hR;exact .inl (pb (by rw[←hR];exact z0 1))
 rw[e1]at h1;rw[h1,cond_false]at hR;refine apc hs ?_;(conv=>whnf);refine loopS (tyOf_ok _) hmix (by kernel_rfl) W.length [0,1,11,12,13] [] (fun k _=>[.p (.s (B l)),.p (.i .i64 n),.p (.sl 1 (W.map TK.eStr)),.p (.i .i64 (W.map TK.eStr).length),.p (.i .i64 (ix k))]) (fun _ _=>[]) (fun k _=>((W.drop k).contains l&&n==2)=R) () ⟨rfl,rfl,rfl,rfl⟩ hR ?_;intro k s hk hn;(conv=>whnf);refine asplit ?_ ?_<;>intro h2<;>conv=>whnf
 ·have hk1:=ix_tt h2 (by simp) hk (by omega)
  obtain⟨x,hx⟩:∃b,W[k]?=some b:=⟨_,List.getElem?_eq_getElem hk1⟩
  refine aidxk (x:=TK.eStr x) (by simp[hx]) (by omega) ?_;(conv=>whnf);rw[drop_cons hx,List.contains_cons]at hn;refine asplit ?_ ?_<;>intro h3<;>conv=>whnf
  ·rw[B_beq]at h3
   rw[show(l==x)=true by rw[eq_of_beq h3];simp,Bool.true_or,Bool.true_and]at hn;exact .inl (pb (by rw[←hn];exact z0 2))
  ·rw[B_beq]at h3
   rw[show(l==x)=false by simp only[beq_eq_false_iff_ne]at h3 ⊢;exact fun e=>h3 e.symm,Bool.false_or]at hn;exact⟨hk1,(),⟨rfl,rfl,rfl,rfl⟩,hn⟩
 ·have hk1:=ix_ff h2 (by simp) hk (by omega)
  rw[hk1,List.drop_length]at hn;exact .inl (pb hn)
theorem op_spec (s:ByteArray) (n:Nat):APure Tryz.prog 188 [.p (.s s),.p (.i .i64 n)] (.p (.b (opF s n))):=by
 have hs:=TK.split_spec opsC (B [32]) rfl (by decide);have:=op_aux s.data.toList n (TK.splitF 32 opsC) (by rw[TK.split_len];exact Nat.le_trans (Nat.succ_le_succ (TK.count_le' _ _)) (by decide)) hs _ rfl;rw[←B_of]at this;exact this
end TR
open Go Go.AM Go.Proofs
set_option maxRecDepth 100000
namespace TR
def mostF (k:Int) (a:Nat):Nat:=bif k==9||(k==12||(k==14||k==17)) then 6 else bif k==11 then 7 else a
def tooF (k:Int) (a m t:Nat):Bool:=decide (a>mostF k a)||(decide (m>12)||decide (t>64))
theorem too_aux (k m:Int) (t:ByteArray) (ns:List ByteArray) (ts:List Ty) (xs:List Ex) (ms:List Arm) (p:Int) (R:Bool) (hR:tooF k xs.length ms.length t.size=R):
 APure Tryz.prog 166 [.p (eE (.mk k m t ns ts xs ms p))] (.p (.b R)):=by
 have hxl:=eEs_len xs;have hml:=eAs_len ms;have z1:∀q:Nat,decide (((eEs xs).length:Int)>(q:Int))=decide (xs.length>q):=fun q=>by rw[hxl];exact decide_eq_decide.2 (by omega)
 have z2:decide (((eAs ms).length:Int)>12)=decide (ms.length>12):=by rw[hml];exact decide_eq_decide.2 (by omega)
 have z3:decide ((t.size:Int)>64)=decide (t.size>64):=decide_eq_decide.2 (by omega);have z4:decide (((eEs xs).length:Int)>((eEs xs).length:Int))=decide (xs.length>xs.length):=by rw[hxl];exact decide_eq_decide.2 (by omega)
 rw[tooF]at hR;refine APure.intro (tyOf_ok Tryz.prog) hmix Tryz.func166 rfl (by rfl) (by kernel_rfl) (by show 1≤_;decide) rfl ?_;(conv=>whnf);refine asplit ?_ ?_<;>intro k1<;>conv=>whnf
 ·refine ast k1 ?_
  (conv=>whnf);rw[show decide (((eEs xs).length:Int)>6)=_ from z1 6];refine asplit ?_ ?_<;>intro g1<;>conv=>whnf
  ·exact .inl (pb (by rw[←hR,show mostF k xs.length=6 by rw[mostF,k1];rfl,g1];rfl))
  rw[z2];refine asplit ?_ ?_<;>intro g2<;>conv=>whnf
  ·exact .inl (pb (by rw[←hR,show mostF k xs.length=6 by rw[mostF,k1];rfl,g1,g2];rfl))
  exact .inl (pb (by rw[←hR,show mostF k xs.length=6 by rw[mostF,k1];rfl,g1,g2,z3];rfl))
 refine asplit ?_ ?_<;>intro k2<;>conv=>whnf
 ·refine ast k2 ?_
  (conv=>whnf);rw[show decide (((eEs xs).length:Int)>6)=_ from z1 6];refine asplit ?_ ?_<;>intro g1<;>conv=>whnf
  ·exact .inl (pb (by rw[←hR,show mostF k xs.length=6 by rw[mostF,k1,k2];rfl,g1];rfl))
  rw[z2];refine asplit ?_ ?_<;>intro g2<;>conv=>whnf
  ·exact .inl (pb (by rw[←hR,show mostF k xs.length=6 by rw[mostF,k1,k2];rfl,g1,g2];rfl))
  exact .inl (pb (by rw[←hR,show mostF k xs.length=6 by rw[mostF,k1,k2];rfl,g1,g2,z3];rfl))
 refine asplit ?_ ?_<;>intro k3<;>conv=>whnf
 ·refine ast k3 ?_
  (conv=>whnf);rw[show decide (((eEs xs).length:Int)>6)=_ from z1 6];refine asplit ?_ ?_<;>intro g1<;>conv=>whnf
  ·exact .inl (pb (by rw[←hR,show mostF k xs.length=6 by rw[mostF,k1,k2,k3];rfl,g1];rfl))
  rw[z2];refine asplit ?_ ?_<;>intro g2<;>conv=>whnf
  ·exact .inl (pb (by rw[←hR,show mostF k xs.length=6 by rw[mostF,k1,k2,k3];rfl,g1,g2];rfl))
  exact .inl (pb (by rw[←hR,show mostF k xs.length=6 by rw[mostF,k1,k2,k3];rfl,g1,g2,z3];rfl))
 refine asplit ?_ ?_<;>intro k4<;>conv=>whnf
 ·rw[show decide (((eEs xs).length:Int)>6)=_ from z1 6]
  refine asplit ?_ ?_<;>intro g1<;>conv=>whnf
  ·exact .inl (pb (by rw[←hR,show mostF k xs.length=6 by rw[mostF,k1,k2,k3,k4];rfl,g1];rfl))
  rw[z2];refine asplit ?_ ?_<;>intro g2<;>conv=>whnf
  ·exact .inl (pb (by rw[←hR,show mostF k xs.length=6 by rw[mostF,k1,k2,k3,k4];rfl,g1,g2];rfl))
  exact .inl (pb (by rw[←hR,show mostF k xs.length=6 by rw[mostF,k1,k2,k3,k4];rfl,g1,g2,z3];rfl))
 refine asplit ?_ ?_<;>intro k5<;>conv=>whnf
 ·rw[show decide (((eEs xs).length:Int)>7)=_ from z1 7]
  refine asplit ?_ ?_<;>intro g1<;>conv=>whnf
  ·exact .inl (pb (by rw[←hR,show mostF k xs.length=7 by rw[mostF,k1,k2,k3,k4,k5];rfl,g1];rfl))
  rw[z2];refine asplit ?_ ?_<;>intro g2<;>conv=>whnf
  ·exact .inl (pb (by rw[←hR,show mostF k xs.length=7 by rw[mostF,k1,k2,k3,k4,k5];rfl,g1,g2];rfl))
  exact .inl (pb (by rw[←hR,show mostF k xs.length=7 by rw[mostF,k1,k2,k3,k4,k5];rfl,g1,g2,z3];rfl))
 rw[z4];refine asplit ?_ ?_<;>intro g1<;>conv=>whnf
 ·exact .inl (pb (by rw[←hR,show mostF k xs.length=xs.length by rw[mostF,k1,k2,k3,k4,k5];rfl,g1];rfl))
 rw[z2];refine asplit ?_ ?_<;>intro g2<;>conv=>whnf
 ·exact .inl (pb (by rw[←hR,show mostF k xs.length=xs.length by rw[mostF,k1,k2,k3,k4,k5];rfl,g1,g2];rfl))
 exact .inl (pb (by rw[←hR,show mostF k xs.length=xs.length by rw[mostF,k1,k2,k3,k4,k5];rfl,g1,g2,z3];rfl))
def textOK (k:Int) (t:ByteArray) (a:Nat):Bool:=bif k==5||(k==6||k==9) then lowB t else bif k==12||k==14 then upB t else bif k==8 then opF t a else bif k==4 then true else isS t []
def numOK (k m:Int):Bool:=bif k==3 then (m==0||m==1) else bif k==2 then true else bif k==18 then (m==-1||plainF m) else m==0
def armsOK (k:Int) (n:Nat):Bool:=bif k==13 then !(n==0) else bif k==18 then true else n==0
def partsR (k m:Int) (t:ByteArray) (nl tl a ml:Nat):Bool:=((a:Int)==needsF k m a)&&(textOK k t a&&(numOK k m&&(armsOK k ml&&(k==10||nl+tl==0))))
theorem parts_aux (k m:Int) (t:ByteArray) (ns:List ByteArray) (ts:List Ty) (xs:List Ex) (ms:List Arm) (p:Int) (R:Bool) (hR:partsR k m t ns.length ts.length xs.length ms.length=R)
 (ht:t.size≤1048576) (hns:ns.length≤1048576) (hts:ts.length≤1048576):
 APure Tryz.prog 167 [.p (eE (.mk k m t ns ts xs ms p))] (.p (.b R)):=by
 have hxl:=eEs_len xs;have hml:=eAs_len ms;have htl:=eTs_len ts;have p0:APure Tryz.prog 45 [.p (eE (.mk k m t ns ts xs ms p))] (.p (.i .i64 (needsF k m xs.length))):=needs_spec (.mk k m t ns ts xs ms p);have p1:=lowB_spec t ht;have p2:=upB_spec t ht;have p3:=op_spec t xs.length;have p4:=plain_spec m;have e0:(t.toList==ByteArray.toList ⟨#[]⟩)=isS t []:=isS_eq t []
 have z1:(((eAs ms).length:Int)==0)=(ms.length==0):=by
  rw[hml]
  by_cases q:ms.length=0
  ·rw[q];rfl
  ·rw[show(ms.length==0)=false by simpa using q];simpa using q
 have z2:(IntKind.i64.wrap (((ns.map eStr).length:Int)+((eTs ts).length:Int))==0)=(ns.length+ts.length==0):=by
  rw[List.length_map,htl,wrap64 (by omega) (by omega)]
  by_cases q:ns.length+ts.length=0
  ·rw[q];have h1:ns.length=0:=by omega
   have h2:ts.length=0:=by omega
   rw[h1,h2];rfl
  ·rw[show(ns.length+ts.length==0)=false by simpa using q]
   have:¬((ns.length:Int)+(ts.length:Int)=0):=by omega
   simpa using this
 rw[partsR,textOK,numOK,armsOK]at hR;rw[←hxl]at hR p3;generalize hN:(((eEs xs).length:Int)==needsF k m (eEs xs).length)=N at *;rw[←hxl]at p0;generalize needsF k m (eEs xs).length=nd at *;generalize isS t []=b0 at *;generalize lowB t=b1 at *;generalize upB t=b2 at *;generalize opF t (eEs xs).length=b3 at *;generalize plainF m=b4 at *;generalize hM:(ms.length==0)=b5 at *;generalize (ns.length+ts.length==0)=b6 at *;clear ht hns hts hxl hml htl;refine APure.intro (tyOf_ok Tryz.prog) hmix Tryz.func167 rfl (by rfl) (by kernel_rfl) (by show 1≤_;decide) rfl ?_;(conv=>whnf);refine apc p0 ?_;(conv=>whnf);rw[e0,hN]
 first|refine aneed (.inl (by kernel_rfl)) ?_|refine aneed (by kernel_rfl) ?_
 (conv=>whnf);refine asplit ?_ ?_<;>intro g<;>conv=>whnf
 ·have hk:=eq_of_beq g
  subst hk;(conv=>whnf);refine apc p1 ?_;(conv=>whnf);refine asplit ?_ ?_<;>intro _<;>conv=>whnf
  rotate_left
  ·refine .inl (pb ?_)
   clear z1 z2 p0 p1 p2 p3 p4
   simp_all
  refine asplit ?_ ?_<;>intro _<;>conv=>whnf
  rotate_left
  ·refine .inl (pb ?_)
   clear z1 z2 p0 p1 p2 p3 p4
   simp_all
  refine asplit ?_ ?_<;>intro _<;>conv=>whnf
  rotate_left
  ·refine .inl (pb ?_)
   clear z1 z2 p0 p1 p2 p3 p4
   simp_all
  rw[z1];refine asplit ?_ ?_<;>intro _<;>conv=>whnf
  rotate_left
  ·refine .inl (pb ?_)
   clear z1 z2 p0 p1 p2 p3 p4
   simp_all
  rw[z2];refine .inl (pb ?_);clear z1 z2 p0 p1 p2 p3 p4
  simp_all
 have g5:=g;refine asplit ?_ ?_<;>intro g<;>conv=>whnf
 ·have hk:=eq_of_beq g
  subst hk;(conv=>whnf);refine apc p1 ?_;(conv=>whnf);refine asplit ?_ ?_<;>intro _<;>conv=>whnf
  rotate_left
  ·refine .inl (pb ?_)
   clear z1 z2 p0 p1 p2 p3 p4
   simp_all
  refine asplit ?_ ?_<;>intro _<;>conv=>whnf
  rotate_left
  ·refine .inl (pb ?_)
   clear z1 z2 p0 p1 p2 p3 p4
   simp_all
  refine asplit ?_ ?_<;>intro _<;>conv=>whnf
  rotate_left
  ·refine .inl (pb ?_)
   clear z1 z2 p0 p1 p2 p3 p4
   simp_all
  rw[z1];refine asplit ?_ ?_<;>intro _<;>conv=>whnf
  rotate_left
  ·refine .inl (pb ?_)
   clear z1 z2 p0 p1 p2 p3 p4
   simp_all
  rw[z2];refine .inl (pb ?_);clear z1 z2 p0 p1 p2 p3 p4
  simp_all
 have g6:=g;refine asplit ?_ ?_<;>intro g<;>conv=>whnf
 ·have hk:=eq_of_beq g
  subst hk;refine apc p1 ?_;(conv=>whnf);refine asplit ?_ ?_<;>intro _<;>conv=>whnf
  rotate_left
  ·refine .inl (pb ?_)
   clear z1 z2 p0 p1 p2 p3 p4
   simp_all
  refine asplit ?_ ?_<;>intro _<;>conv=>whnf
  rotate_left
  ·refine .inl (pb ?_)
   clear z1 z2 p0 p1 p2 p3 p4
   simp_all
  refine asplit ?_ ?_<;>intro _<;>conv=>whnf
  rotate_left
  ·refine .inl (pb ?_)
   clear z1 z2 p0 p1 p2 p3 p4
   simp_all
  rw[z1];refine asplit ?_ ?_<;>intro _<;>conv=>whnf
  rotate_left
  ·refine .inl (pb ?_)
   clear z1 z2 p0 p1 p2 p3 p4
   simp_all
  rw[z2];refine .inl (pb ?_);clear z1 z2 p0 p1 p2 p3 p4
  simp_all
 have g9:=g;refine asplit ?_ ?_<;>intro g<;>conv=>whnf
 ·have hk:=eq_of_beq g
  subst hk;(conv=>whnf);refine apc p2 ?_;(conv=>whnf);refine asplit ?_ ?_<;>intro _<;>conv=>whnf
  rotate_left
  ·refine .inl (pb ?_)
   clear z1 z2 p0 p1 p2 p3 p4
   simp_all
  refine asplit ?_ ?_<;>intro _<;>conv=>whnf
  rotate_left
  ·refine .inl (pb ?_)
   clear z1 z2 p0 p1 p2 p3 p4
   simp_all
  refine asplit ?_ ?_<;>intro _<;>conv=>whnf
  rotate_left
  ·refine .inl (pb ?_)
   clear z1 z2 p0 p1 p2 p3 p4
   simp_all
  rw[z1];refine asplit ?_ ?_<;>intro _<;>conv=>whnf
  rotate_left
  ·refine .inl (pb ?_)
   clear z1 z2 p0 p1 p2 p3 p4
   simp_all
  rw[z2];refine .inl (pb ?_);clear z1 z2 p0 p1 p2 p3 p4
  simp_all
 have g12:=g;refine asplit ?_ ?_<;>intro g<;>conv=>whnf
 ·have hk:=eq_of_beq g
  subst hk;refine apc p2 ?_;(conv=>whnf);refine asplit ?_ ?_<;>intro _<;>conv=>whnf
  rotate_left
  ·refine .inl (pb ?_)
   clear z1 z2 p0 p1 p2 p3 p4
   simp_all
  refine asplit ?_ ?_<;>intro _<;>conv=>whnf
  rotate_left
  ·refine .inl (pb ?_)
   clear z1 z2 p0 p1 p2 p3 p4
   simp_all
  refine asplit ?_ ?_<;>intro _<;>conv=>whnf
  rotate_left
  ·refine .inl (pb ?_)
   clear z1 z2 p0 p1 p2 p3 p4
   simp_all
  rw[z1];refine asplit ?_ ?_<;>intro _<;>conv=>whnf
  rotate_left
  ·refine .inl (pb ?_)
   clear z1 z2 p0 p1 p2 p3 p4
   simp_all
  rw[z2];refine .inl (pb ?_);clear z1 z2 p0 p1 p2 p3 p4
  simp_all
 have g14:=g;refine asplit ?_ ?_<;>intro g<;>conv=>whnf
 ·have hk:=eq_of_beq g
  subst hk;refine apc p3 ?_;(conv=>whnf);refine asplit ?_ ?_<;>intro _<;>conv=>whnf
  rotate_left
  ·refine .inl (pb ?_)
   clear z1 z2 p0 p1 p2 p3 p4
   simp_all
  refine asplit ?_ ?_<;>intro _<;>conv=>whnf
  rotate_left
  ·refine .inl (pb ?_)
   clear z1 z2 p0 p1 p2 p3 p4
   simp_all
  refine asplit ?_ ?_<;>intro _<;>conv=>whnf
  rotate_left
  ·refine .inl (pb ?_)
   clear z1 z2 p0 p1 p2 p3 p4
   simp_all
  rw[z1];refine asplit ?_ ?_<;>intro _<;>conv=>whnf
  rotate_left
  ·refine .inl (pb ?_)
   clear z1 z2 p0 p1 p2 p3 p4
   simp_all
  rw[z2];refine .inl (pb ?_);clear z1 z2 p0 p1 p2 p3 p4
  simp_all
 have g8:=g;refine asplit ?_ ?_<;>intro g<;>conv=>whnf
 ·have hk:=eq_of_beq g
  subst hk;refine asplit ?_ ?_<;>intro _<;>conv=>whnf
  rotate_left
  ·refine .inl (pb ?_)
   clear z1 z2 p0 p1 p2 p3 p4
   simp_all
  refine asplit ?_ ?_<;>intro _<;>conv=>whnf
  rotate_left
  ·refine .inl (pb ?_)
   clear z1 z2 p0 p1 p2 p3 p4
   simp_all
  rw[z1];refine asplit ?_ ?_<;>intro _<;>conv=>whnf
  rotate_left
  ·refine .inl (pb ?_)
   clear z1 z2 p0 p1 p2 p3 p4
   simp_all
  rw[z2];refine .inl (pb ?_);clear z1 z2 p0 p1 p2 p3 p4
  simp_all
 have g4:=g;refine asplit ?_ ?_<;>intro g<;>conv=>whnf
 ·have hk:=eq_of_beq g
  subst hk;refine asplit ?_ ?_<;>intro q<;>conv=>whnf
  ·refine asplit ?_ ?_<;>intro _<;>conv=>whnf
   rotate_left
   ·refine .inl (pb ?_)
    clear z1 z2 p0 p1 p2 p3 p4
    simp_all
   refine asplit ?_ ?_<;>intro _<;>conv=>whnf
   rotate_left
   ·refine .inl (pb ?_)
    clear z1 z2 p0 p1 p2 p3 p4
    simp_all
   rw[z1];refine asplit ?_ ?_<;>intro _<;>conv=>whnf
   rotate_left
   ·refine .inl (pb ?_)
    clear z1 z2 p0 p1 p2 p3 p4
    simp_all
   rw[z2];refine .inl (pb ?_);clear z1 z2 p0 p1 p2 p3 p4
   simp_all
  ·refine asplit ?_ ?_<;>intro _<;>conv=>whnf
   rotate_left
   ·refine .inl (pb ?_)
    clear z1 z2 p0 p1 p2 p3 p4
    simp_all
   refine asplit ?_ ?_<;>intro _<;>conv=>whnf
   rotate_left
   ·refine .inl (pb ?_)
    clear z1 z2 p0 p1 p2 p3 p4
    simp_all
   refine asplit ?_ ?_<;>intro _<;>conv=>whnf
   rotate_left
   ·refine .inl (pb ?_)
    clear z1 z2 p0 p1 p2 p3 p4
    simp_all
   rw[z1];refine asplit ?_ ?_<;>intro _<;>conv=>whnf
   rotate_left
   ·refine .inl (pb ?_)
    clear z1 z2 p0 p1 p2 p3 p4
    simp_all
   rw[z2];refine .inl (pb ?_);clear z1 z2 p0 p1 p2 p3 p4
   simp_all
 have g3:=g;refine asplit ?_ ?_<;>intro g<;>conv=>whnf
 ·have hk:=eq_of_beq g
  subst hk;refine asplit ?_ ?_<;>intro _<;>conv=>whnf
  rotate_left
  ·refine .inl (pb ?_)
   clear z1 z2 p0 p1 p2 p3 p4
   simp_all
  refine asplit ?_ ?_<;>intro _<;>conv=>whnf
  rotate_left
  ·refine .inl (pb ?_)
   clear z1 z2 p0 p1 p2 p3 p4
   simp_all
  rw[z1];refine asplit ?_ ?_<;>intro _<;>conv=>whnf
  rotate_left
  ·refine .inl (pb ?_)
   clear z1 z2 p0 p1 p2 p3 p4
   simp_all
  rw[z2];refine .inl (pb ?_);clear z1 z2 p0 p1 p2 p3 p4
  simp_all
 have g2:=g;refine asplit ?_ ?_<;>intro g<;>conv=>whnf
 ·have hk:=eq_of_beq g
  subst hk;refine asplit ?_ ?_<;>intro q<;>conv=>whnf
  ·refine asplit ?_ ?_<;>intro _<;>conv=>whnf
   rotate_left
   ·refine .inl (pb ?_)
    clear z1 z2 p0 p1 p2 p3 p4
    simp_all
   refine asplit ?_ ?_<;>intro _<;>conv=>whnf
   rotate_left
   ·refine .inl (pb ?_)
    clear z1 z2 p0 p1 p2 p3 p4
    simp_all
   rw[z2];refine .inl (pb ?_);clear z1 z2 p0 p1 p2 p3 p4
   simp_all
  ·refine apc p4 ?_
   (conv=>whnf);refine asplit ?_ ?_<;>intro _<;>conv=>whnf
   rotate_left
   ·refine .inl (pb ?_)
    clear z1 z2 p0 p1 p2 p3 p4
    simp_all
   refine asplit ?_ ?_<;>intro _<;>conv=>whnf
   rotate_left
   ·refine .inl (pb ?_)
    clear z1 z2 p0 p1 p2 p3 p4
    simp_all
   refine asplit ?_ ?_<;>intro _<;>conv=>whnf
   rotate_left
   ·refine .inl (pb ?_)
    clear z1 z2 p0 p1 p2 p3 p4
    simp_all
   rw[z2];refine .inl (pb ?_);clear z1 z2 p0 p1 p2 p3 p4
   simp_all
 have g18:=g;refine asplit ?_ ?_<;>intro g<;>conv=>whnf
 ·have hk:=eq_of_beq g
  subst hk;refine asplit ?_ ?_<;>intro _<;>conv=>whnf
  rotate_left
  ·refine .inl (pb ?_)
   clear z1 z2 p0 p1 p2 p3 p4
   simp_all
  refine asplit ?_ ?_<;>intro _<;>conv=>whnf
  rotate_left
  ·refine .inl (pb ?_)
   clear z1 z2 p0 p1 p2 p3 p4
   simp_all
  refine asplit ?_ ?_<;>intro _<;>conv=>whnf
  rotate_left
  ·refine .inl (pb ?_)
   clear z1 z2 p0 p1 p2 p3 p4
   simp_all
  rw[z1];refine asplit ?_ ?_<;>intro _<;>conv=>whnf
  rotate_left
  ·refine .inl (pb ?_)
   clear z1 z2 p0 p1 p2 p3 p4
   simp_all
  rw[z2];refine .inl (pb ?_);clear z1 z2 p0 p1 p2 p3 p4
  simp_all
 refine asf g18 ?_;(conv=>whnf);refine asplit ?_ ?_<;>intro _<;>conv=>whnf
 rotate_left
 ·refine .inl (pb ?_)
  clear z1 z2 p0 p1 p2 p3 p4
  simp_all
 refine asplit ?_ ?_<;>intro _<;>conv=>whnf
 rotate_left
 ·refine .inl (pb ?_)
  clear z1 z2 p0 p1 p2 p3 p4
  simp_all
 refine asplit ?_ ?_<;>intro _<;>conv=>whnf
 rotate_left
 ·refine .inl (pb ?_)
  clear z1 z2 p0 p1 p2 p3 p4
  simp_all
 rw[z1];refine asplit ?_ ?_<;>intro _<;>conv=>whnf
 rotate_left
 ·refine .inl (pb ?_)
  clear z1 z2 p0 p1 p2 p3 p4
  simp_all
 refine asplit ?_ ?_<;>intro g10<;>conv=>whnf
 ·refine .inl (pb ?_)
  clear z1 z2 p0 p1 p2 p3 p4
  simp_all
 rw[z2];refine .inl (pb ?_);clear z1 z2 p0 p1 p2 p3 p4
 simp_all
end TR
open Go Go.AM Go.Proofs
set_option maxRecDepth 100000
namespace TR
mutual
def rE:Ex→Bool→Int
 |.mk k m t ns ts xs ms _,be=>bif decide (needsF k m xs.length<0) then 3 else bif tooF k xs.length ms.length t.size then 2
  else bif !partsR k m t ns.length ts.length xs.length ms.length||(k==17&&!be) then 3
  else bif k==10 then (bif !(ns.length==ts.length) then 3 else bif orF [rNames ns,rTypes ts]==0 then (bif rEs xs false==0 then rAs ms false else rEs xs false) else orF [rNames ns,rTypes ts])
  else (bif rEs xs be==0 then rAs ms be else rEs xs be)
def rEs:List Ex→Bool→Int
 | [],_=>0
 |e::r,be=>bif rE e be==0 then rEs r be else rE e be
def rAs:List Arm→Bool→Int
 | [],_=>0
 |.mk p e::r,be=>bif (bif rP p==0 then rE e be else rP p)==0 then rAs r be else (bif rP p==0 then rE e be else rP p)
end
def rA (be:Bool) (a:Arm):Int:=bif rP a.pat==0 then rE a.body be else rP a.pat
theorem rEs_each (be:Bool):∀(l:List Ex),rEs l be=eachF (fun e=>rE e be) l
 | []=>by rw[rEs,eachF]
 |t::r=>by rw[rEs,eachF,rEs_each be r]
theorem rAs_each (be:Bool):∀(l:List Arm),rAs l be=eachF (rA be) l
 | []=>by rw[rAs,eachF]
 |.mk p e::r=>by rw[rAs,eachF,rAs_each be r];rfl
theorem expr1_of (e:Ex) (be:Bool) (R:Int) (h:APure Tryz.prog 143 [.p (eE e),.p (.b be)] (.p (.i .i64 R))):
 AMem Tryz.prog 169 [.p (eE e),.ptr 1000000000 0] [(1000000000,.cells [.p (.b be)])] (.p (.i .i64 R)) [(1000000000,.cells [.p (.b be)])]:=by
 obtain⟨k,m,t,ns,ts,xs,ms,p⟩:=e;refine AMem.intro (tyOf_ok Tryz.prog) hmix Tryz.func169 rfl (by rfl) (by kernel_rfl) (by show 2≤_;decide) rfl ?_;(conv=>whnf);refine apc h ?_;(conv=>whnf);exact⟨.inl rfl,⟨.inl rfl,trivial⟩,trivial⟩
theorem expr2_of (a:Arm) (be:Bool) (h1:APure Tryz.prog 172 [.p (eP a.pat)] (.p (.i .i64 (rP a.pat)))) (h2:APure Tryz.prog 143 [.p (eE a.body),.p (.b be)] (.p (.i .i64 (rE a.body be)))):
 AMem Tryz.prog 171 [.p (eA a),.ptr 1000000000 0] [(1000000000,.cells [.p (.b be)])] (.p (.i .i64 (rA be a))) [(1000000000,.cells [.p (.b be)])]:=by
 rw[rA];generalize rP a.pat=u at *;generalize rE a.body be=v at *;obtain⟨⟨pk,pm,pt,px⟩,⟨k,m,t,ns,ts,xs,ms,p⟩⟩:=a;simp only[Arm.pat,Arm.body]at h1 h2;refine AMem.intro (tyOf_ok Tryz.prog) hmix Tryz.func171 rfl (by rfl) (by kernel_rfl) (by show 2≤_;decide) rfl ?_;(conv=>whnf);refine apc h1 ?_;(conv=>whnf);refine asplit ?_ ?_<;>intro g<;>conv=>whnf
 ·exact⟨.inl (pi (by rw[ne0 g];rfl)),⟨.inl rfl,trivial⟩,trivial⟩
 ·refine apc h2 ?_
  (conv=>whnf);exact⟨.inl (pi (by rw[eq0 g];rfl)),⟨.inl rfl,trivial⟩,trivial⟩
theorem expr_of (k m:Int) (t:ByteArray) (ns:List ByteArray) (ts:List Ty) (xs:List Ex) (ms:List Arm) (p:Int) (be:Bool) (hw:wE (.mk k m t ns ts xs ms p)≤1048576)
 (ih1:∀x∈xs,∀b,APure Tryz.prog 143 [.p (eE x),.p (.b b)] (.p (.i .i64 (rE x b)))) (ih2:∀a∈ms,∀b,APure Tryz.prog 143 [.p (eE a.body),.p (.b b)] (.p (.i .i64 (rE a.body b)))):
 APure Tryz.prog 143 [.p (eE (.mk k m t ns ts xs ms p)),.p (.b be)] (.p (.i .i64 (rE (.mk k m t ns ts xs ms p) be))):=by
 have hR:(bif decide (needsF k m xs.length<0) then 3 else bif tooF k xs.length ms.length t.size then 2
  else bif !partsR k m t ns.length ts.length xs.length ms.length||(k==17&&!be) then 3
  else bif k==10 then (bif !(ns.length==ts.length) then 3 else bif orF [rNames ns,rTypes ts]==0 then (bif rEs xs false==0 then rAs ms false else rEs xs false) else orF [rNames ns,rTypes ts])
  else (bif rEs xs be==0 then rAs ms be else rEs xs be))=rE (.mk k m t ns ts xs ms p) be:=by rw[rE]
 have hlen:=wE_lens k m t ns ts xs ms p;have hw2:=wE_mk k m t ns ts xs ms p;have p0:APure Tryz.prog 45 [.p (eE (.mk k m t ns ts xs ms p))] (.p (.i .i64 (needsF k m xs.length))):=needs_spec (.mk k m t ns ts xs ms p);have p1:=too_aux k m t ns ts xs ms p _ rfl;have p2:=parts_aux k m t ns ts xs ms p _ rfl (by omega) (by omega) (by omega);have p3:=names_spec ns (by omega);have p4:=types_spec ts (by omega);have p5:=or_spec [rNames ns,rTypes ts] (by simp) _ rfl
 have hx:∀b,AMem Tryz.prog 168 [.p (.sl 8 (eEs xs)),.fn 169 [] [.ptr 1000000000 0]] [(1000000000,.cells [.p (.b b)])] (.p (.i .i64 (rEs xs b))) [(1000000000,.cells [.p (.b b)])]:=fun b=>by
  have:=eachvEx xs 169 b (fun x=>rE x b) (by omega) (fun x hx=>expr1_of x b _ (ih1 x hx b)) _ rfl;rw[←eEs_map,←rEs_each]at this;exact this
 have ha:∀b,AMem Tryz.prog 170 [.p (.sl 12 (eAs ms)),.fn 171 [] [.ptr 1000000000 0]] [(1000000000,.cells [.p (.b b)])] (.p (.i .i64 (rAs ms b))) [(1000000000,.cells [.p (.b b)])]:=fun b=>by
  have:=eachvAr ms 171 b (rA b) (by omega) (fun x hx=>expr2_of x b (pat_spec x.pat (by have:=wE_body (k:=k) (n:=m) (t:=t) (ns:=ns) (ts:=ts) (xs:=xs) (p:=p) hx;have:=wE_pos x.body;omega)) (ih2 x hx b)) _ rfl;rw[←eAs_map,←rAs_each]at this;exact this
 have z1:(((ns.map eStr).length:Int) != ((eTs ts).length:Int))=!(ns.length==ts.length):=by
  rw[List.length_map,eTs_len]
  by_cases q:ns.length=ts.length
  ·rw[q];simp
  ·rw[show(ns.length==ts.length)=false by simpa using q]
   have:¬((ns.length:Int)=(ts.length:Int)):=by omega
   simpa using this
 clear ih1 ih2 hw hw2 hlen;generalize rE (.mk k m t ns ts xs ms p) be=R at *;generalize needsF k m xs.length=nd at *;generalize tooF k xs.length ms.length t.size=b1 at *;generalize partsR k m t ns.length ts.length xs.length ms.length=b2 at *;generalize orF [rNames ns,rTypes ts]=o at *;generalize rNames ns=o1 at *;generalize rTypes ts=o2 at *;generalize rEs xs=EX at *;generalize rAs ms=AX at *;generalize (ns.length==ts.length)=b3 at *;refine APure.intro (tyOf_ok Tryz.prog) hmix Tryz.func143 rfl (by rfl) (by kernel_rfl) (by show 2≤_;decide) rfl ?_;(conv=>whnf);refine apc p0 ?_;(conv=>whnf);refine asplit ?_ ?_<;>intro g1<;>conv=>whnf
 ·exact .inl (pi (by rw[←hR,g1];rfl))
 rw[g1,cond_false]at hR;refine apc p1 ?_;(conv=>whnf);refine asplit ?_ ?_<;>intro g2<;>conv=>whnf
 ·exact .inl (pi (by rw[←hR,g2];rfl))
 rw[g2,cond_false]at hR;refine apc p2 ?_;(conv=>whnf);refine asplit ?_ ?_<;>intro g3<;>conv=>whnf
 ·exact .inl (pi (by rw[←hR,g3];rfl))
 rw[g3,Bool.false_or]at hR;refine asplit ?_ ?_<;>intro g4<;>conv=>whnf
 ·refine asplit ?_ ?_<;>intro g5<;>conv=>whnf
  ·exact .inl (pi (by rw[←hR,g4,g5];rfl))
  ·rw[g4,g5,Bool.and_false,cond_false]at hR
   have hk:=eq_of_beq g4;subst hk;refine amc [3] 10000 (hx be) ?_;(conv=>whnf);refine asplit ?_ ?_<;>intro q1<;>conv=>whnf
   ·exact .inl (pi (by rw[←hR,ne0 q1];rfl))
   ·rw[eq0 q1,cond_true]at hR
    refine amc [3] 20000 (ha be) ?_;(conv=>whnf);exact .inl (pi hR)
 ·rw[g4,Bool.false_and,cond_false]at hR
  refine asplit ?_ ?_<;>intro g5<;>conv=>whnf
  ·rw[g5,cond_true]at hR
   rw[z1];refine asplit ?_ ?_<;>intro g6<;>conv=>whnf
   ·exact .inl (pi (by rw[←hR,g6];rfl))
   rw[g6,cond_false]at hR;refine apc p3 ?_;(conv=>whnf);refine apc p4 ?_;(conv=>whnf);refine apc p5 ?_;(conv=>whnf)
   first|refine aneed (.inl (by kernel_rfl)) ?_|refine aneed (by kernel_rfl) ?_
   (conv=>whnf);refine asplit ?_ ?_<;>intro g7<;>conv=>whnf
   ·exact .inl (pi (by rw[←hR,ne0 g7];rfl))
   rw[eq0 g7,cond_true]at hR;refine amc [3] 10000 (hx false) ?_;(conv=>whnf);refine asplit ?_ ?_<;>intro q1<;>conv=>whnf
   ·exact .inl (pi (by rw[←hR,ne0 q1];rfl))
   ·rw[eq0 q1,cond_true]at hR
    refine amc [3] 20000 (ha false) ?_;(conv=>whnf);exact .inl (pi hR)
  ·rw[g5,cond_false]at hR
   refine amc [3] 10000 (hx be) ?_;(conv=>whnf);refine asplit ?_ ?_<;>intro q1<;>conv=>whnf
   ·exact .inl (pi (by rw[←hR,ne0 q1];rfl))
   ·rw[eq0 q1,cond_true]at hR
    refine amc [3] 20000 (ha be) ?_;(conv=>whnf);exact .inl (pi hR)
theorem expr_spec (e:Ex):wE e≤1048576→∀be,APure Tryz.prog 143 [.p (eE e),.p (.b be)] (.p (.i .i64 (rE e be))):=
 Ex.ind (Q:=fun e=>wE e≤1048576→∀be,APure Tryz.prog 143 [.p (eE e),.p (.b be)] (.p (.i .i64 (rE e be)))) (fun k m t ns ts xs ms p h1 h2 hw be=>
  expr_of k m t ns ts xs ms p be hw (fun x hx b=>h1 x hx (by have:=wE_args (k:=k) (n:=m) (t:=t) (ns:=ns) (ts:=ts) (ms:=ms) (p:=p) hx;omega) b)
   (fun a ha b=>h2 a ha (by have:=wE_body (k:=k) (n:=m) (t:=t) (ns:=ns) (ts:=ts) (xs:=xs) (p:=p) ha;omega) b)) e
def rBody (e:Ex) (be:Bool):Int:=bif decide (sizeF e>400)||decide (deepF e>40) then 2 else rE e be
theorem body_spec (e:Ex) (hw:wE e≤1048576) (be:Bool):APure Tryz.prog 115 [.p (eE e),.p (.b be)] (.p (.i .i64 (rBody e be))):=by
 have p1:=size_spec e hw;have p2:=deep_spec e hw;have p3:=expr_spec e hw be;have z1:∀(a b:Nat),decide ((a:Int)>(b:Int))=decide (a>b):=fun a b=>decide_eq_decide.2 (by omega);rw[rBody];generalize rE e be=R at *;generalize sizeF e=s at *;generalize deepF e=d at *;obtain⟨k,m,t,ns,ts,xs,ms,p⟩:=e;refine APure.intro (tyOf_ok Tryz.prog) hmix Tryz.func115 rfl (by rfl) (by kernel_rfl) (by show 2≤_;decide) rfl ?_;(conv=>whnf);refine apc p1 ?_;(conv=>whnf);refine asplit ?_ ?_<;>intro g1<;>conv=>whnf
 ·have g1:decide (s>400)=true:=by rw[←z1];exact g1
  exact .inl (pi (by rw[g1];rfl))
 have g1:decide (s>400)=false:=by rw[←z1];exact g1
 refine apc p2 ?_;(conv=>whnf);refine asplit ?_ ?_<;>intro g2<;>conv=>whnf
 ·have g2:decide (d>40)=true:=by rw[←z1];exact g2
  exact .inl (pi (by rw[g1,g2];rfl))
 have g2:decide (d>40)=false:=by rw[←z1];exact g2
 refine apc p3 ?_;(conv=>whnf);exact .inl (pi (by rw[g1,g2];rfl))
end TR
open Go Go.AM Go.Proofs
set_option maxRecDepth 100000
namespace TR
theorem zgt (a b:Nat):decide ((a:Int)>(b:Int))=decide (a>b):=decide_eq_decide.2 (by omega)
theorem zeq (a b:Nat):((a:Int)==(b:Int))=(a==b):=by
 by_cases q:a=b
 ·subst q;simp
 ·rw[show(a==b)=false by simpa using q];simpa using fun h=>q (by omega)
theorem zne (a b:Nat):((a:Int) != (b:Int))=!(a==b):=by rw[bne,zeq]
def rMk (m:LMk):Int:=bif !upB m.name then 3 else bif decide (m.ts.length>6) then 2 else rTypes m.ts
theorem mk_spec (m:LMk) (hw:PV.wt (elMk m)≤1048576):APure Tryz.prog 111 [.p (elMk m)] (.p (.i .i64 (rMk m))):=by
 rw[wlMk_eq]at hw;rw[rMk];have p1:=upB_spec m.name (by omega);have p2:=types_spec m.ts (by omega);have z1:decide (((eTs m.ts).length:Int)>6)=decide (m.ts.length>6):=by rw[eTs_len];exact zgt _ 6
 generalize upB m.name=b at *;generalize rTypes m.ts=R at *;generalize decide (m.ts.length>6)=c at *;obtain⟨nm,ts⟩:=m;refine APure.intro (tyOf_ok Tryz.prog) hmix Tryz.func111 rfl (by rfl) (by kernel_rfl) (by show 1≤_;decide) rfl ?_;(conv=>whnf);refine apc p1 ?_;(conv=>whnf);refine asplit ?_ ?_<;>intro g1<;>conv=>whnf
 ·exact .inl (pi (by rw[g1];rfl))
 rw[z1];refine asplit ?_ ?_<;>intro g2<;>conv=>whnf
 ·exact .inl (pi (by rw[g1,g2];rfl))
 refine apc p2 ?_;(conv=>whnf);exact .inl (pi (by rw[g1,g2];rfl))
def rDt (d:LDt):Int:=bif !upB d.name||(builtB d.name||d.makes.length==0) then 3 else bif orF [rNames d.ps,whenF (decide (d.makes.length>12)) 2]==0 then eachF rMk d.makes else orF [rNames d.ps,whenF (decide (d.makes.length>12)) 2]
theorem dt_spec (d:LDt) (hw:PV.wt (elDt d)≤1048576):APure Tryz.prog 67 [.p (elDt d)] (.p (.i .i64 (rDt d))):=by
 rw[wlDt_eq]at hw;rw[rDt];have hml:=l_wts elMk (fun m=>by rw[wlMk_eq];omega) d.makes;have p1:=upB_spec d.name (by omega);have p2:=built_spec d.name;have p3:=names_spec d.ps (by omega);have p4:=when_spec (decide (d.makes.length>12)) 2;have p5:=or_spec [rNames d.ps,whenF (decide (d.makes.length>12)) 2] (by simp) _ rfl;have p6:=eachMk d.makes 111 rMk (by omega) (fun m hm=>mk_spec m (by have:=l_mem elMk hm;omega)) _ rfl;have z1:(((d.makes.map elMk).length:Int)==0)=(d.makes.length==0):=by rw[List.length_map];exact zeq _ 0
 have z2:decide (((d.makes.map elMk).length:Int)>12)=decide (d.makes.length>12):=by rw[List.length_map];exact zgt _ 12
 generalize upB d.name=b at *;generalize builtB d.name=c at *;generalize orF [rNames d.ps,whenF (decide (d.makes.length>12)) 2]=o at *;generalize whenF (decide (d.makes.length>12)) 2=w at *;generalize rNames d.ps=n at *;generalize eachF rMk d.makes=E at *;generalize decide (d.makes.length>12)=q1 at *;generalize (d.makes.length==0)=q2 at *;obtain⟨nm,ps,ms⟩:=d;refine APure.intro (tyOf_ok Tryz.prog) hmix Tryz.func67 rfl (by rfl) (by kernel_rfl) (by show 1≤_;decide) rfl ?_;(conv=>whnf);refine apc p1 ?_;(conv=>whnf);refine asplit ?_ ?_<;>intro g1<;>conv=>whnf
 ·exact .inl (pi (by rw[g1];rfl))
 refine apc p2 ?_;(conv=>whnf);refine asplit ?_ ?_<;>intro g2<;>conv=>whnf
 ·exact .inl (pi (by rw[g1,g2];rfl))
 rw[z1];refine asplit ?_ ?_<;>intro g3<;>conv=>whnf
 ·exact .inl (pi (by rw[g1,g2,g3];rfl))
 refine apc p3 ?_;(conv=>whnf);rw[z2];refine apc p4 ?_;(conv=>whnf);refine apc p5 ?_;(conv=>whnf)
 first|refine aneed (.inl (by kernel_rfl)) ?_|refine aneed (by kernel_rfl) ?_
 (conv=>whnf);refine asplit ?_ ?_<;>intro g4<;>conv=>whnf
 ·exact .inl (pi (by rw[g1,g2,g3,ne0 g4];rfl))
 refine apc p6 ?_;(conv=>whnf);exact .inl (pi (by rw[g1,g2,g3,eq0 g4];rfl))
def rHead (f:LFu):Int:=bif !lowB f.name||!(f.ns.length==f.ts.length) then 3 else orF [rNames f.ps,rNames f.ns,rTypes f.ts,rT f.out 1]
theorem head_spec (f:LFu) (hw:wlFu f≤1048576):APure Tryz.prog 114 [.p (elFu f)] (.p (.i .i64 (rHead f))):=by
 rw[wlFu_eq]at hw;rw[rHead];have p1:=lowB_spec f.name (by omega);have p2:=names_spec f.ps (by omega);have p3:=names_spec f.ns (by omega);have p4:=types_spec f.ts (by omega);have p5:APure Tryz.prog 116 [.p (eT f.out),.p (.i .i64 1)] (.p (.i .i64 (rT f.out 1))):=type_spec f.out (by omega) 1 (by omega);have p6:=or_spec [rNames f.ps,rNames f.ns,rTypes f.ts,rT f.out 1] (by simp) _ rfl;have z1:(((f.ns.map eStr).length:Int) != ((eTs f.ts).length:Int))=!(f.ns.length==f.ts.length):=by rw[List.length_map,eTs_len];exact zne _ _
 generalize lowB f.name=b at *;generalize orF [rNames f.ps,rNames f.ns,rTypes f.ts,rT f.out 1]=o at *;generalize rNames f.ps=n1 at *;generalize rNames f.ns=n2 at *;generalize rTypes f.ts=n3 at *;generalize rT f.out 1=n4 at *;generalize (f.ns.length==f.ts.length)=q at *;obtain⟨nm,ps,ns,ts,⟨k,n,x⟩,⟨x1,x2,x3,x4,x5,x6,x7,x8⟩⟩:=f;refine APure.intro (tyOf_ok Tryz.prog) hmix Tryz.func114 rfl (by rfl) (by kernel_rfl) (by show 1≤_;decide) rfl ?_;(conv=>whnf);refine apc p1 ?_;(conv=>whnf);refine asplit ?_ ?_<;>intro g1<;>conv=>whnf
 ·exact .inl (pi (by rw[g1];rfl))
 rw[z1];refine asplit ?_ ?_<;>intro g2<;>conv=>whnf
 ·exact .inl (pi (by rw[g1,g2];rfl))
 refine apc p2 ?_;(conv=>whnf);refine apc p3 ?_;(conv=>whnf);refine apc p4 ?_;(conv=>whnf);refine apc p5 ?_;(conv=>whnf);refine apc p6 ?_;(conv=>whnf)
 first|refine aneed (.inl (by kernel_rfl)) ?_|refine aneed (by kernel_rfl) ?_
 (conv=>whnf);exact .inl (pi (by rw[g1,g2];rfl))
def zeroE (e:Ex):Bool:=e.kind==0&&(e.num==0&&(isS e.text []&&e.names.length+e.types.length+e.args.length+e.arms.length==0))
def rTF (f:LFu):Int:=orF [rHead f,whenF (!zeroE f.body) 3]
theorem tf_spec (f:LFu) (hw:wlFu f≤1048576):APure Tryz.prog 113 [.p (elFu f)] (.p (.i .i64 (rTF f))):=by
 have p1:=head_spec f hw;rw[wlFu_eq]at hw;have hl:=wE_lens f.body.kind f.body.num f.body.text f.body.names f.body.types f.body.args f.body.arms f.body.pos;have hb:f.body=.mk f.body.kind f.body.num f.body.text f.body.names f.body.types f.body.args f.body.arms f.body.pos:=by cases f.body;rfl
 rw[←hb]at hl;have p2:∀b,when_spec b 3=when_spec b 3:=fun _=>rfl;have pw:∀b,zeroE f.body=b→APure Tryz.prog 106 [.p (.b (!b)),.p (.i .i64 3)] (.p (.i .i64 (whenF (!zeroE f.body) 3))):=fun b hb=>by rw[hb];exact when_spec _ 3
 have p3:=or_spec [rHead f,whenF (!zeroE f.body) 3] (by simp) _ rfl;have e0:(f.body.text.toList==ByteArray.toList ⟨#[]⟩)=isS f.body.text []:=isS_eq f.body.text []
 have w1:((IntKind.i64.wrap (IntKind.i64.wrap (IntKind.i64.wrap (((f.body.names.map eStr).length:Int)+((eTs f.body.types).length:Int))+((eEs f.body.args).length:Int))+((eAs f.body.arms).length:Int)))==0)=(f.body.names.length+f.body.types.length+f.body.args.length+f.body.arms.length==0):=by
  rw[List.length_map,eTs_len,eEs_len,eAs_len,wrap64 (x:=(f.body.names.length:Int)+_) (by omega) (by omega),wrap64 (x:=(f.body.names.length:Int)+_+_) (by omega) (by omega),wrap64 (by omega) (by omega)];have:=zeq (f.body.names.length+f.body.types.length+f.body.args.length+f.body.arms.length) 0;rw[←this];rfl
 rw[rTF];clear p2 hb hl hw;generalize orF [rHead f,whenF (!zeroE f.body) 3]=o at *;generalize whenF (!zeroE f.body) 3=w at *;rw[zeroE]at pw;generalize rHead f=h at *;generalize (f.body.names.length+f.body.types.length+f.body.args.length+f.body.arms.length==0)=q at *;generalize isS f.body.text []=b0 at *;obtain⟨nm,ps,ns,ts,⟨k,n,x⟩,⟨x1,x2,x3,x4,x5,x6,x7,x8⟩⟩:=f;simp only[Ex.kind,Ex.num,Ex.text,Ex.names,Ex.types,Ex.args,Ex.arms]at pw e0 w1;refine APure.intro (tyOf_ok Tryz.prog) hmix Tryz.func113 rfl (by rfl) (by kernel_rfl) (by show 1≤_;decide) rfl ?_;(conv=>whnf);refine asplit ?_ ?_<;>intro g1<;>conv=>whnf
 ·refine asplit ?_ ?_<;>intro g2<;>conv=>whnf
  ·rw[e0]
   refine asplit ?_ ?_<;>intro g3<;>conv=>whnf
   ·rw[w1]
    (conv=>whnf);refine apc p1 ?_;(conv=>whnf);refine apc (pw _ (by rw[g1,g2,g3];rfl)) ?_;(conv=>whnf);refine apc p3 ?_;(conv=>whnf);exact .inl rfl
   ·refine apc p1 ?_
    (conv=>whnf);refine apc (pw _ (by rw[g1,g2,g3];rfl)) ?_;(conv=>whnf);refine apc p3 ?_;(conv=>whnf);exact .inl rfl
  ·refine apc p1 ?_
   (conv=>whnf);refine apc (pw _ (by rw[g1,g2];rfl)) ?_;(conv=>whnf);refine apc p3 ?_;(conv=>whnf);exact .inl rfl
 ·refine apc p1 ?_
  (conv=>whnf);refine apc (pw _ (by rw[g1];rfl)) ?_;(conv=>whnf);refine apc p3 ?_;(conv=>whnf);exact .inl rfl
def rTr (t:LTr):Int:=bif !upB t.name then 3 else bif decide (t.funcs.length>12) then 2 else eachF rTF t.funcs
theorem tr_spec (t:LTr) (hw:PV.wt (elTr t)≤1048576):APure Tryz.prog 69 [.p (elTr t)] (.p (.i .i64 (rTr t))):=by
 rw[wlTr_eq]at hw;rw[rTr];have hfl:=l_wts elFu (fun m=>by have:=wlFu_eq m;rw[wlFu]at this;omega) t.funcs;have p1:=upB_spec t.name (by omega);have p2:=eachFu t.funcs 113 rTF (by omega) (fun m hm=>tf_spec m (by have:=l_mem elFu hm;rw[wlFu];omega)) _ rfl;have z1:decide (((t.funcs.map elFu).length:Int)>12)=decide (t.funcs.length>12):=by rw[List.length_map];exact zgt _ 12
 generalize upB t.name=b at *;generalize eachF rTF t.funcs=R at *;generalize decide (t.funcs.length>12)=c at *;obtain⟨nm,fs⟩:=t;refine APure.intro (tyOf_ok Tryz.prog) hmix Tryz.func69 rfl (by rfl) (by kernel_rfl) (by show 1≤_;decide) rfl ?_;(conv=>whnf);refine apc p1 ?_;(conv=>whnf);refine asplit ?_ ?_<;>intro g1<;>conv=>whnf
 ·exact .inl (pi (by rw[g1];rfl))
 rw[z1];refine asplit ?_ ?_<;>intro g2<;>conv=>whnf
 ·exact .inl (pi (by rw[g1,g2];rfl))
 refine apc p2 ?_;(conv=>whnf);exact .inl (pi (by rw[g1,g2];rfl))
def rFu (f:LFu):Int:=bif rHead f==0 then rBody f.body false else rHead f
theorem fu_spec (f:LFu) (hw:wlFu f≤1048576):APure Tryz.prog 73 [.p (elFu f)] (.p (.i .i64 (rFu f))):=by
 have p1:=head_spec f hw;rw[wlFu_eq]at hw;rw[rFu];have p2:=body_spec f.body (by omega) false;generalize rHead f=h at *;generalize rBody f.body false=R at *;obtain⟨nm,ps,ns,ts,⟨k,n,x⟩,⟨x1,x2,x3,x4,x5,x6,x7,x8⟩⟩:=f;refine APure.intro (tyOf_ok Tryz.prog) hmix Tryz.func73 rfl (by rfl) (by kernel_rfl) (by show 1≤_;decide) rfl ?_;(conv=>whnf);refine apc p1 ?_;(conv=>whnf);refine asplit ?_ ?_<;>intro g1<;>conv=>whnf
 ·exact .inl (pi (by rw[ne0 g1];rfl))
 refine apc p2 ?_;(conv=>whnf);exact .inl (pi (by rw[eq0 g1];rfl))
def basicB (s:ByteArray):Bool:=isS s [105,110,116]||(isS s [98,111,111,108]||(isS s [116,101,120,116]||isS s [117,110,105,116]))
def rIm (x:LIm):Int:=bif !upB x.tr||(!upB x.fo&&!basicB x.fo) then 3 else bif decide (x.funcs.length>12) then 2 else eachF rFu x.funcs
theorem im_spec (t:LIm) (hw:PV.wt (elIm t)≤1048576):APure Tryz.prog 71 [.p (elIm t)] (.p (.i .i64 (rIm t))):=by
 rw[wlIm_eq]at hw;have hR:(bif !upB t.tr||(!upB t.fo&&!(isS t.fo [105,110,116]||(isS t.fo [98,111,111,108]||(isS t.fo [116,101,120,116]||isS t.fo [117,110,105,116])))) then 3 else bif decide (t.funcs.length>12) then 2 else eachF rFu t.funcs)=rIm t:=rfl;have hfl:=l_wts elFu (fun m=>by have:=wlFu_eq m;rw[wlFu]at this;omega) t.funcs;have p1:=upB_spec t.tr (by omega);have p3:=upB_spec t.fo (by omega);have p2:=eachFu t.funcs 73 rFu (by omega) (fun m hm=>fu_spec m (by have:=l_mem elFu hm;rw[wlFu];omega)) _ rfl;have z1:decide (((t.funcs.map elFu).length:Int)>12)=decide (t.funcs.length>12):=by rw[List.length_map];exact zgt _ 12
 have e1:(t.fo.toList==ByteArray.toList ⟨#[105,110,116]⟩)=isS t.fo [105,110,116]:=isS_eq t.fo [105,110,116];have e2:(t.fo.toList==ByteArray.toList ⟨#[98,111,111,108]⟩)=isS t.fo [98,111,111,108]:=isS_eq t.fo [98,111,111,108];have e3:(t.fo.toList==ByteArray.toList ⟨#[116,101,120,116]⟩)=isS t.fo [116,101,120,116]:=isS_eq t.fo [116,101,120,116];have e4:(t.fo.toList==ByteArray.toList ⟨#[117,110,105,116]⟩)=isS t.fo [117,110,105,116]:=isS_eq t.fo [117,110,105,116];generalize rIm t=R at *;generalize upB t.tr=b at *;generalize upB t.fo=c at *;generalize isS t.fo [105,110,116]=b1 at *;generalize isS t.fo [98,111,111,108]=b2 at *;generalize isS t.fo [116,101,120,116]=b3 at *;generalize isS t.fo [117,110,105,116]=b4 at *;generalize eachF rFu t.funcs=E at *;generalize decide (t.funcs.length>12)=q at *;obtain⟨nm,fo,fs⟩:=t;refine APure.intro (tyOf_ok Tryz.prog) hmix Tryz.func71 rfl (by rfl) (by kernel_rfl) (by show 1≤_;decide) rfl ?_;(conv=>whnf);rw[e1];refine asplit ?_ ?_<;>intro g1<;>conv=>whnf
 ·refine apc p1 ?_
  (conv=>whnf);refine asplit ?_ ?_<;>intro h1<;>conv=>whnf
  ·exact .inl (pi (by rw[←hR,h1];rfl))
  refine apc p3 ?_;(conv=>whnf);refine asplit ?_ ?_<;>intro h2<;>conv=>whnf
  ·rw[z1]
   refine asplit ?_ ?_<;>intro r1<;>conv=>whnf
   ·exact .inl (pi (by rw[←hR,h1,h2,g1,r1];simp))
   refine apc p2 ?_;(conv=>whnf);exact .inl (pi (by rw[←hR,h1,h2,g1,r1];simp))
  ·rw[z1]
   refine asplit ?_ ?_<;>intro r1<;>conv=>whnf
   ·exact .inl (pi (by rw[←hR,h1,h2,g1,r1];simp))
   refine apc p2 ?_;(conv=>whnf);exact .inl (pi (by rw[←hR,h1,h2,g1,r1];simp))
 rw[e2];refine asplit ?_ ?_<;>intro g2<;>conv=>whnf
 ·refine apc p1 ?_
  (conv=>whnf);refine asplit ?_ ?_<;>intro h1<;>conv=>whnf
  ·exact .inl (pi (by rw[←hR,h1];rfl))
  refine apc p3 ?_;(conv=>whnf);refine asplit ?_ ?_<;>intro h2<;>conv=>whnf
  ·rw[z1]
   refine asplit ?_ ?_<;>intro r1<;>conv=>whnf
   ·exact .inl (pi (by rw[←hR,h1,h2,g1,g2,r1];simp))
   refine apc p2 ?_;(conv=>whnf);exact .inl (pi (by rw[←hR,h1,h2,g1,g2,r1];simp))
  ·rw[z1]
   refine asplit ?_ ?_<;>intro r1<;>conv=>whnf
   ·exact .inl (pi (by rw[←hR,h1,h2,g1,g2,r1];simp))
   refine apc p2 ?_;(conv=>whnf);exact .inl (pi (by rw[←hR,h1,h2,g1,g2,r1];simp))
 rw[e3];refine asplit ?_ ?_<;>intro g3<;>conv=>whnf
 ·refine apc p1 ?_
  (conv=>whnf);refine asplit ?_ ?_<;>intro h1<;>conv=>whnf
  ·exact .inl (pi (by rw[←hR,h1];rfl))
  refine apc p3 ?_;(conv=>whnf);refine asplit ?_ ?_<;>intro h2<;>conv=>whnf
  ·rw[z1]
   refine asplit ?_ ?_<;>intro r1<;>conv=>whnf
   ·exact .inl (pi (by rw[←hR,h1,h2,g1,g2,g3,r1];simp))
   refine apc p2 ?_;(conv=>whnf);exact .inl (pi (by rw[←hR,h1,h2,g1,g2,g3,r1];simp))
  ·rw[z1]
   refine asplit ?_ ?_<;>intro r1<;>conv=>whnf
   ·exact .inl (pi (by rw[←hR,h1,h2,g1,g2,g3,r1];simp))
   refine apc p2 ?_;(conv=>whnf);exact .inl (pi (by rw[←hR,h1,h2,g1,g2,g3,r1];simp))
 rw[e4];refine apc p1 ?_;(conv=>whnf);refine asplit ?_ ?_<;>intro h1<;>conv=>whnf
 ·exact .inl (pi (by rw[←hR,h1];rfl))
 refine apc p3 ?_;(conv=>whnf);refine asplit ?_ ?_<;>intro h2<;>conv=>whnf
 ·refine asplit ?_ ?_<;>intro h3<;>conv=>whnf
  ·exact .inl (pi (by rw[←hR,h1,h2,g1,g2,g3,show b4=false by simpa using h3];rfl))
  ·have h3:b4=true:=by simpa using h3
   rw[z1];refine asplit ?_ ?_<;>intro r1<;>conv=>whnf
   ·exact .inl (pi (by rw[←hR,h1,h2,g1,g2,g3,h3,r1];simp))
   refine apc p2 ?_;(conv=>whnf);exact .inl (pi (by rw[←hR,h1,h2,g1,g2,g3,h3,r1];simp))
 ·rw[z1]
  refine asplit ?_ ?_<;>intro r1<;>conv=>whnf
  ·exact .inl (pi (by rw[←hR,h1,h2,r1];simp))
  refine apc p2 ?_;(conv=>whnf);exact .inl (pi (by rw[←hR,h1,h2,r1];simp))
def rAc (a:LAc):Int:=bif !upB a.name||!(a.ns.length==a.ts.length) then 3 else bif orF [rNames a.ns,rTypes a.ts,rT a.msg 1]==0 then rBody a.body true else orF [rNames a.ns,rTypes a.ts,rT a.msg 1]
theorem ac_spec (f:LAc) (hw:PV.wt (elAc f)≤1048576):APure Tryz.prog 75 [.p (elAc f)] (.p (.i .i64 (rAc f))):=by
 rw[wlAc_eq]at hw;rw[rAc];have p1:=upB_spec f.name (by omega);have p3:=names_spec f.ns (by omega);have p4:=types_spec f.ts (by omega);have p5:APure Tryz.prog 116 [.p (eT f.msg),.p (.i .i64 1)] (.p (.i .i64 (rT f.msg 1))):=type_spec f.msg (by omega) 1 (by omega);have p6:=or_spec [rNames f.ns,rTypes f.ts,rT f.msg 1] (by simp) _ rfl;have p7:=body_spec f.body (by omega) true;have z1:(((f.ns.map eStr).length:Int) != ((eTs f.ts).length:Int))=!(f.ns.length==f.ts.length):=by rw[List.length_map,eTs_len];exact zne _ _
 generalize upB f.name=b at *;generalize orF [rNames f.ns,rTypes f.ts,rT f.msg 1]=o at *;generalize rNames f.ns=n2 at *;generalize rTypes f.ts=n3 at *;generalize rT f.msg 1=n4 at *;generalize rBody f.body true=R at *;generalize (f.ns.length==f.ts.length)=q at *;obtain⟨nm,ns,ts,⟨k,n,x⟩,⟨x1,x2,x3,x4,x5,x6,x7,x8⟩⟩:=f;refine APure.intro (tyOf_ok Tryz.prog) hmix Tryz.func75 rfl (by rfl) (by kernel_rfl) (by show 1≤_;decide) rfl ?_;(conv=>whnf);refine apc p1 ?_;(conv=>whnf);refine asplit ?_ ?_<;>intro g1<;>conv=>whnf
 ·exact .inl (pi (by rw[g1];rfl))
 rw[z1];refine asplit ?_ ?_<;>intro g2<;>conv=>whnf
 ·exact .inl (pi (by rw[g1,g2];rfl))
 refine apc p3 ?_;(conv=>whnf);refine apc p4 ?_;(conv=>whnf);refine apc p5 ?_;(conv=>whnf);refine apc p6 ?_;(conv=>whnf)
 first|refine aneed (.inl (by kernel_rfl)) ?_|refine aneed (by kernel_rfl) ?_
 (conv=>whnf);refine asplit ?_ ?_<;>intro g3<;>conv=>whnf
 ·exact .inl (pi (by rw[g1,g2,ne0 g3];rfl))
 refine apc p7 ?_;(conv=>whnf);exact .inl (pi (by rw[g1,g2,eq0 g3];rfl))
end TR
open Go Go.AM Go.Proofs
set_option maxRecDepth 100000
namespace TR
def elCells (p:LPg):List AV:=[.p (.s p.name),.p (.i .i64 p.ver),.p (.sl 3 (p.uses.map elUse)),.p (.sl 3 (p.datas.map elDt)),.p (.sl 2 (p.traits.map elTr)),.p (.sl 3 (p.impls.map elIm)),.p (.sl 15 (p.funcs.map elFu)),.p (.sl 14 (p.actors.map elAc))]
def bigF (l:List Int):Bool:=l.any fun n=>decide (n>40)
def nextE (c:Int) (x:Int):Int:=bif c==0 then x else c
def rPg (p:LPg):Int:=bif bigF [((p.uses.map elUse).length:Int),((p.datas.map elDt).length:Int),((p.traits.map elTr).length:Int),((p.impls.map elIm).length:Int),((p.funcs.map elFu).length:Int),((p.actors.map elAc).length:Int)] then 2
 else bif !lowB p.name||!plainF p.ver then 3
 else nextE (nextE (nextE (nextE (nextE (eachF rUse p.uses) (eachF rDt p.datas)) (eachF rTr p.traits)) (eachF rIm p.impls)) (eachF rFu p.funcs)) (eachF rAc p.actors)
theorem bigF_drop (l:List Int) (k:Nat) (x:Int) (h:l[k]?=some x):bigF (l.drop k)=(decide (x>40)||bigF (l.drop (k+1))):=by
 rw[drop_cons h,bigF,List.any_cons];rfl
theorem right_aux (p:LPg) (R U D T I F A:Int) (a b:Bool) (L:List Int) (hL:L=[((p.uses.map elUse).length:Int),((p.datas.map elDt).length:Int),((p.traits.map elTr).length:Int),((p.impls.map elIm).length:Int),((p.funcs.map elFu).length:Int),((p.actors.map elAc).length:Int)])
 (hR:(bif bigF L then 2 else bif !a||!b then 3 else nextE (nextE (nextE (nextE (nextE U D) T) I) F) A)=R)
 (p1:APure Tryz.prog 62 [.p (.s p.name)] (.p (.b a))) (p2:APure Tryz.prog 63 [.p (.i .i64 p.ver)] (.p (.b b)))
 (hU:APure Tryz.prog 64 [.p (.sl 3 (p.uses.map elUse)),.fn 65 [] []] (.p (.i .i64 U)))
 (hD:APure Tryz.prog 66 [.p (.sl 3 (p.datas.map elDt)),.fn 67 [] []] (.p (.i .i64 D)))
 (hT:APure Tryz.prog 68 [.p (.sl 2 (p.traits.map elTr)),.fn 69 [] []] (.p (.i .i64 T)))
 (hI:APure Tryz.prog 70 [.p (.sl 3 (p.impls.map elIm)),.fn 71 [] []] (.p (.i .i64 I)))
 (hF:APure Tryz.prog 72 [.p (.sl 15 (p.funcs.map elFu)),.fn 73 [] []] (.p (.i .i64 F)))
 (hA:APure Tryz.prog 74 [.p (.sl 14 (p.actors.map elAc)),.fn 75 [] []] (.p (.i .i64 A))):
 APure Tryz.prog 44 [.p (elPg p)] (.p (.i .i64 R)):=by
 have hLl:L.length=6:=by rw[hL];rfl
 obtain⟨nm,ve,us,ds,ts,is,fs,acs⟩:=p;simp only at *;refine APure.intro (tyOf_ok Tryz.prog) hmix Tryz.func44 rfl (by rfl) (by kernel_rfl) (by show 1≤_;decide) rfl ?_;(conv=>whnf);refine loopS (tyOf_ok _) hmix (by kernel_rfl) 6 [1,24,25,26] [1] (fun k _=>[.ptr 1 0,.so 1 (L.map vI),.p (.i .i64 (6:Nat)),.p (.i .i64 (ix k))]) (fun _ _=>[.cells (elCells ⟨nm,ve,us,ds,ts,is,fs,acs⟩)]) (fun k _=>bigF L=bigF (L.drop k)) () ⟨rfl,by rw[hL];rfl,rfl,rfl⟩ rfl ?_;intro k s hk hn;(conv=>whnf);refine asplit ?_ ?_<;>intro h1<;>conv=>whnf
 ·have hk1:k<6:=by rw[ix_eq (by omega)]at h1;have:=of_decide_eq_true h1;omega
  obtain⟨x,hx⟩:∃b,L[k]?=some b:=⟨_,List.getElem?_eq_getElem (by omega)⟩
  rw[bigF_drop L k x hx]at hn;refine aidxk (x:=vI x) (by simp[hx]) (by omega) ?_;(conv=>whnf);refine asplit ?_ ?_<;>intro h2<;>conv=>whnf
  ·rw[h2,Bool.true_or]at hn
   exact .inl (pi (by rw[←hR,hn];rfl))
  ·rw[h2,Bool.false_or]at hn
   exact⟨hk1,(),⟨rfl,rfl,rfl,rfl⟩,hn⟩
 ·have hk1:k=6:=by rw[ix_eq (by omega)]at h1;have:=of_decide_eq_false h1;omega
  rw[hk1,List.drop_eq_nil_of_le (by omega)]at hn;rw[show bigF L=false by rw[hn];rfl,cond_false]at hR;refine apc p1 ?_;(conv=>whnf);refine asplit ?_ ?_<;>intro g1<;>conv=>whnf
  ·exact .inl (pi (by rw[←hR,g1];rfl))
  refine apc p2 ?_;(conv=>whnf);refine asplit ?_ ?_<;>intro g2<;>conv=>whnf
  ·exact .inl (pi (by rw[←hR,g1,g2];rfl))
  rw[g1,g2,Bool.or_self,cond_false]at hR;refine apc hU ?_;(conv=>whnf);refine asplit ?_ ?_<;>intro u1<;>conv=>whnf
  ·have e1:nextE U D=D:=by rw[nextE,u1];rfl
   rw[e1]at hR;refine apc hD ?_;(conv=>whnf);refine asplit ?_ ?_<;>intro u2<;>conv=>whnf
   ·have e2:nextE D T=T:=by rw[nextE,u2];rfl
    rw[e2]at hR;refine apc hT ?_;(conv=>whnf);refine asplit ?_ ?_<;>intro u3<;>conv=>whnf
    ·have e3:nextE T I=I:=by rw[nextE,u3];rfl
     rw[e3]at hR;refine apc hI ?_;(conv=>whnf);refine asplit ?_ ?_<;>intro u4<;>conv=>whnf
     ·have e4:nextE I F=F:=by rw[nextE,u4];rfl
      rw[e4]at hR;refine apc hF ?_;(conv=>whnf);refine asplit ?_ ?_<;>intro u5<;>conv=>whnf
      ·have e5:nextE F A=A:=by rw[nextE,u5];rfl
       rw[e5]at hR;refine apc hA ?_;(conv=>whnf);exact .inl (pi hR)
      ·exact .inl (pi (by rw[←hR];simp only[nextE,u5,cond_false]))
     ·refine asf u4 ?_
      (conv=>whnf);exact .inl (pi (by rw[←hR];simp only[nextE,u4,cond_false]))
    ·refine asf u3 ?_
     (conv=>whnf);refine asf u3 ?_;(conv=>whnf);exact .inl (pi (by rw[←hR];simp only[nextE,u3,cond_false]))
   ·refine asf u2 ?_
    (conv=>whnf);refine asf u2 ?_;(conv=>whnf);refine asf u2 ?_;(conv=>whnf);exact .inl (pi (by rw[←hR];simp only[nextE,u2,cond_false]))
  ·refine asf u1 ?_
   (conv=>whnf);refine asf u1 ?_;(conv=>whnf);refine asf u1 ?_;(conv=>whnf);refine asf u1 ?_;(conv=>whnf);exact .inl (pi (by rw[←hR];simp only[nextE,u1,cond_false]))
theorem right_spec (p:LPg) (hw:wlPg p≤1048576):APure Tryz.prog 44 [.p (elPg p)] (.p (.i .i64 (rPg p))):=by
 rw[wlPg_eq]at hw;have h1:=l_wts elUse (fun m=>by rw[wlUse_eq];omega) p.uses;have h2:=l_wts elDt (fun m=>by rw[wlDt_eq];omega) p.datas;have h3:=l_wts elTr (fun m=>by rw[wlTr_eq];omega) p.traits;have h4:=l_wts elIm (fun m=>by rw[wlIm_eq];omega) p.impls;have h5:=l_wts elFu (fun m=>by have:=wlFu_eq m;rw[wlFu]at this;omega) p.funcs;have h6:=l_wts elAc (fun m=>by rw[wlAc_eq];omega) p.actors
 exact right_aux p _ _ _ _ _ _ _ _ _ _ rfl rfl (lowB_spec p.name (by omega)) (plain_spec p.ver)
  (eachUse p.uses 65 rUse (by omega) (fun m hm=>rUse_spec m (by have:=l_mem elUse hm;omega)) _ rfl)
  (eachDt p.datas 67 rDt (by omega) (fun m hm=>dt_spec m (by have:=l_mem elDt hm;omega)) _ rfl)
  (eachTr p.traits 69 rTr (by omega) (fun m hm=>tr_spec m (by have:=l_mem elTr hm;omega)) _ rfl)
  (eachIm p.impls 71 rIm (by omega) (fun m hm=>im_spec m (by have:=l_mem elIm hm;omega)) _ rfl)
  (eachFu p.funcs 73 rFu (by omega) (fun m hm=>fu_spec m (by have:=l_mem elFu hm;rw[wlFu];omega)) _ rfl)
  (eachAc p.actors 75 rAc (by omega) (fun m hm=>ac_spec m (by have:=l_mem elAc hm;omega)) _ rfl)
end TR
