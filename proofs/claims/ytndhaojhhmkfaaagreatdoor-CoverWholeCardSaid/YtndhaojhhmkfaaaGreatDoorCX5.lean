/-
  DERIVED. Contracts of functions that the law reaches, and the law, for every input. No conditions.
-/
import Derived.Test.YtndhaojhhmkfaaaGreatDoorCX1
open Go Go.AM Go.Proofs TR
set_option maxRecDepth 100000
namespace CV
theorem nexts_snoc:∀(n:Nat) (p:Pt),nextsF (n+1) p=mkNext (nextsF n p)
 |0,p=>rfl
 |n+1,p=>by rw[nextsF,nexts_snoc n (mkNext p)];rfl
theorem nat_spec (k:Int) (hk:R64 k):APure Tryz.prog 21 [.p (.i .i64 k)] (.p (eP (natF k))):=by
 have hw:=wrap_tdiv hk 2 (by omega)
 have hc:=within_spec (k.tdiv 2) 3 (by omega) (by omega)
 have hl:=wit_lt (k.tdiv 2) (n:=3) (by omega)
 unfold natF
 generalize witF (k.tdiv 2) 3=w at hc hl
 obtain⟨n,rfl⟩:∃n:Nat,w=n:=⟨w.toNat,by omega⟩
 rw[Int.toNat_natCast]
 refine APure.intro (tyOf_ok Tryz.prog) hmix Tryz.func21 rfl (by rfl) (by kernel_rfl) (by show 1≤_;decide) rfl ?_
 conv=>whnf
 refine aneed ⟨rfl,by decide⟩ ?_
 conv=>whnf
 refine asplit ?_ ?_<;>intro h1<;>conv=>whnf
 ·rw[h1,cond_true]
  refine aneed ⟨rfl,by decide⟩ ?_
  conv=>whnf
  rw[hw]
  refine apc hc ?_
  conv=>whnf
  refine lp_le 3 (.cells [.p (.i .i64 (mkZero).kind),.p (.i .i64 (pnum mkZero)),.p (.s (mkZero).text),.so 4 []]) rfl ⟨.inl rfl,.inl rfl,.inl rfl,.inr (.inr ⟨rfl,3,rfl⟩),trivial⟩ ?_
  refine lp_le 3 (.cells [.p (.i .i64 (mkZero).kind),.p (.i .i64 (pnum mkZero)),.p (.s (mkZero).text),.p (.sl 4 [])]) rfl ⟨.inl rfl,.inl rfl,.inl rfl,.inr (.inl rfl),trivial⟩ ?_
  refine loopS (tyOf_ok _) hmix (by kernel_rfl) n [2,3,11,12] [2,3] (fun k (q:Pt)=>[.ptr 2 0,.ptr 3 0,.p (.i .i64 (n:Int)),.p (.i .i64 (ix k))]) (fun _ q=>[.cells [.p (.i .i64 0),.p (.i .i64 0),.p (.s nostr),.nilS],.cells [.p (.i .i64 q.kind),.p (.i .i64 (pnum q)),.p (.s q.text),.p (.sl 4 (ePs q.args))]]) (fun k q=>q=nextsF k mkZero) mkZero ⟨rfl,rfl,rfl,rfl⟩ rfl ?_
  rintro j q hj hq
  obtain⟨qk,qn,qt,qx⟩:=q
  conv=>whnf
  refine asplit ?_ ?_<;>intro h2<;>conv=>whnf
  ·have hk1:=ix_tt h2 rfl hj (by omega)
   refine⟨hk1,mkNext (.mk qk qn qt qx),⟨rfl,rfl,rfl,rfl⟩,?_⟩
   rw[nexts_snoc,←hq]
  ·have hk1:=ix_ff h2 rfl hj (by omega)
   rw[←hk1,←hq]
   exact .inl rfl
 ·rw[h1,cond_false]
  refine aneed ⟨rfl,by decide⟩ ?_
  conv=>whnf
  rw[hw]
  refine apc hc ?_
  conv=>whnf
  refine lp_le 3 (.cells [.p (.i .i64 (any1).kind),.p (.i .i64 (pnum any1)),.p (.s (any1).text),.so 4 []]) rfl ⟨.inl rfl,.inl rfl,.inl rfl,.inr (.inr ⟨rfl,3,rfl⟩),trivial⟩ ?_
  refine lp_le 3 (.cells [.p (.i .i64 (any1).kind),.p (.i .i64 (pnum any1)),.p (.s (any1).text),.p (.sl 4 [])]) rfl ⟨.inl rfl,.inl rfl,.inl rfl,.inr (.inl rfl),trivial⟩ ?_
  refine loopS (tyOf_ok _) hmix (by kernel_rfl) n [2,3,11,12] [2,3] (fun k (q:Pt)=>[.ptr 2 0,.ptr 3 0,.p (.i .i64 (n:Int)),.p (.i .i64 (ix k))]) (fun _ q=>[.cells [.p (.i .i64 0),.p (.i .i64 0),.p (.s nostr),.nilS],.cells [.p (.i .i64 q.kind),.p (.i .i64 (pnum q)),.p (.s q.text),.p (.sl 4 (ePs q.args))]]) (fun k q=>q=nextsF k any1) any1 ⟨rfl,rfl,rfl,rfl⟩ rfl ?_
  rintro j q hj hq
  obtain⟨qk,qn,qt,qx⟩:=q
  conv=>whnf
  refine asplit ?_ ?_<;>intro h2<;>conv=>whnf
  ·have hk1:=ix_tt h2 rfl hj (by omega)
   refine⟨hk1,mkNext (.mk qk qn qt qx),⟨rfl,rfl,rfl,rfl⟩,?_⟩
   rw[nexts_snoc,←hq]
  ·have hk1:=ix_ff h2 rfl hj (by omega)
   rw[←hk1,←hq]
   exact .inl rfl
theorem pairP_spec (k:Int) (hk:R64 k):APure Tryz.prog 8 [.p (.i .i64 k)] (.p (eP (pairPF k))):=by
 have hw60:=wrap_tdiv hk 60 (by omega)
 have hw5:=wrap_tdiv hk 5 (by omega)
 have c1:=within_spec (k.tdiv 60) 2 (by omega) (by omega)
 have c2:=within_spec (k.tdiv 60) 3 (by omega) (by omega)
 have c3:=within_spec k 5 (by omega) (by omega)
 have c4:=within_spec (k.tdiv 5) 4 (by omega) (by omega)
 have c5:=within_spec (k.tdiv 5) 12 (by omega) (by omega)
 have c6:=nat_spec (witF (k.tdiv 5) 12) (wit_r _ (by omega) (by omega))
 unfold pairPF flagF
 generalize witF (k.tdiv 60) 2=a1 at c1
 generalize witF (k.tdiv 60) 3=a2 at c2
 generalize witF k 5=a3 at c3
 generalize witF (k.tdiv 5) 4=a4 at c4
 generalize witF (k.tdiv 5) 12=a5 at c5 c6
 generalize natF a5=q at c6
 refine APure.intro (tyOf_ok Tryz.prog) hmix Tryz.func8 rfl (by rfl) (by kernel_rfl) (by show 1≤_;decide) rfl ?_
 conv=>whnf
 refine aneed ⟨rfl,by decide⟩ ?_
 conv=>whnf
 rw[hw60]
 refine apc c1 ?_
 conv=>whnf
 refine aneed ⟨rfl,by decide⟩ ?_
 conv=>whnf
 rw[hw60]
 refine apc c2 ?_
 conv=>whnf
 refine asplit ?_ ?_<;>intro h1<;>conv=>whnf
 ·replace h1:(a2==2)=true:=h1
  rw[h1,cond_true]
  refine apc c3 ?_
  conv=>whnf
  refine asplit ?_ ?_<;>intro h2<;>conv=>whnf
  ·replace h2:(a3==0)=true:=h2
   rw[h2,cond_true]
   exact .inl rfl
  ·replace h2:(a3==0)=false:=h2
   rw[h2,cond_false]
   refine asplit ?_ ?_<;>intro h3<;>conv=>whnf
   ·replace h3:(a3==1)=true:=h3
    rw[h3,cond_true]
    refine aneed ⟨rfl,by decide⟩ ?_
    conv=>whnf
    rw[hw5]
    refine apc c4 ?_
    conv=>whnf
    exact .inl rfl
   ·replace h3:(a3==1)=false:=h3
    rw[h3,cond_false]
    refine asplit ?_ ?_<;>intro h4<;>conv=>whnf
    ·replace h4:(a3==2)=true:=h4
     rw[h4,cond_true]
     exact .inl rfl
    ·replace h4:(a3==2)=false:=h4
     rw[h4,cond_false]
     refine aneed ⟨rfl,by decide⟩ ?_
     conv=>whnf
     rw[hw5]
     refine apc c5 ?_
     conv=>whnf
     refine apc c6 ?_
     conv=>whnf
     obtain⟨qk,qn,qt,qx⟩:=q
     refine aneed (by kernel_rfl) ?_
     conv=>whnf
     exact .inl rfl
 ·replace h1:(a2==2)=false:=h1
  rw[h1,cond_false]
  refine apc c3 ?_
  conv=>whnf
  refine asplit ?_ ?_<;>intro h2<;>conv=>whnf
  ·replace h2:(a3==0)=true:=h2
   rw[h2,cond_true]
   exact .inl rfl
  ·replace h2:(a3==0)=false:=h2
   rw[h2,cond_false]
   refine asplit ?_ ?_<;>intro h3<;>conv=>whnf
   ·replace h3:(a3==1)=true:=h3
    rw[h3,cond_true]
    refine aneed ⟨rfl,by decide⟩ ?_
    conv=>whnf
    rw[hw5]
    refine apc c4 ?_
    conv=>whnf
    exact .inl rfl
   ·replace h3:(a3==1)=false:=h3
    rw[h3,cond_false]
    refine asplit ?_ ?_<;>intro h4<;>conv=>whnf
    ·replace h4:(a3==2)=true:=h4
     rw[h4,cond_true]
     exact .inl rfl
    ·replace h4:(a3==2)=false:=h4
     rw[h4,cond_false]
     refine aneed ⟨rfl,by decide⟩ ?_
     conv=>whnf
     rw[hw5]
     refine apc c5 ?_
     conv=>whnf
     refine apc c6 ?_
     conv=>whnf
     obtain⟨qk,qn,qt,qx⟩:=q
     refine aneed (by kernel_rfl) ?_
     conv=>whnf
     exact .inl rfl
end CV
open Go Go.AM Go.Proofs TR
set_option maxRecDepth 100000
namespace CV
theorem natV_snoc:∀(n:Nat) (v:Vl),natV (n+1) v=.mk nNext [natV n v]
 |0,v=>rfl
 |n+1,v=>by rw[natV,natV_snoc n (.mk nNext [v])];rfl
theorem pairV_spec (k:Int) (hk:R64 k):APure Tryz.prog 11 [.p (.i .i64 k)] (.p (eV (pairVF k))):=by
 have hw3:=wrap_tdiv hk 3 (by omega)
 have hw12:=wrap_tdiv hk 12 (by omega)
 have c1:=within_spec (k.tdiv 3) 4 (by omega) (by omega)
 have hl:=wit_lt (k.tdiv 3) (n:=4) (by omega)
 have c2:=within_spec (k.tdiv 12) 2 (by omega) (by omega)
 have hl2:=wit_lt (k.tdiv 12) (n:=2) (by omega)
 have hb:witF (k.tdiv 12) 2=(bif witF (k.tdiv 12) 2==1 then 1 else 0:Int):=by
  rcases (show witF (k.tdiv 12) 2=0∨witF (k.tdiv 12) 2=1 by omega) with e|e<;>rw[e]<;>rfl
 unfold pairVF
 generalize witF (k.tdiv 3) 4=w at c1 hl
 generalize witF (k.tdiv 12) 2=b at c2 hb
 generalize (b==1)=bb at hb
 subst hb
 refine APure.intro (tyOf_ok Tryz.prog) hmix Tryz.func11 rfl (by rfl) (by kernel_rfl) (by show 1≤_;decide) rfl ?_
 conv=>whnf
 refine aneed ⟨rfl,by decide⟩ ?_
 conv=>whnf
 refine asplit ?_ ?_<;>intro h1<;>conv=>whnf
 ·replace h1:(k.tmod 3==0)=true:=h1
  rw[h1,cond_true]
  refine aneed ⟨rfl,by decide⟩ ?_
  conv=>whnf
  rw[hw3]
  refine apc c1 ?_
  conv=>whnf
  exact .inl rfl
 ·replace h1:(k.tmod 3==0)=false:=h1
  rw[h1,cond_false]
  obtain⟨n,rfl⟩:∃n:Nat,w=n:=⟨w.toNat,by omega⟩
  rw[Int.toNat_natCast]
  refine aneed ⟨rfl,by decide⟩ ?_
  conv=>whnf
  rw[hw3]
  refine apc c1 ?_
  conv=>whnf
  refine lp_le 3 (.cells [.p (.i .i64 5),.p (.i .i64 0),.p (.s nZero),.so 4 []]) rfl ⟨.inl rfl,.inl rfl,.inl rfl,.inr (.inr ⟨rfl,3,rfl⟩),trivial⟩ ?_
  refine lp_le 3 (.cells [.p (.i .i64 5),.p (.i .i64 0),.p (.s nZero),.p (.sl 4 [])]) rfl ⟨.inl rfl,.inl rfl,.inl rfl,.inr (.inl rfl),trivial⟩ ?_
  refine loopS (tyOf_ok _) hmix (by kernel_rfl) n [0,2,3,16,17] [2,3] (fun j (q:ByteArray×List Vl)=>[.p (.i .i64 k),.ptr 2 0,.ptr 3 0,.p (.i .i64 (n:Int)),.p (.i .i64 (ix j))]) (fun _ q=>[.cells [.p (.i .i64 0),.p (.i .i64 0),.p (.s nostr),.nilS],.cells [.p (.i .i64 5),.p (.i .i64 0),.p (.s q.1),.p (.sl 4 (eVs q.2))]]) (fun j q=>Vl.mk q.1 q.2=natV j (.mk nZero [])) (nZero,[]) ⟨rfl,rfl,rfl,rfl⟩ rfl ?_
  rintro j ⟨qt,qx⟩ hj hq
  conv=>whnf
  refine asplit ?_ ?_<;>intro h2<;>conv=>whnf
  ·have hk1:=ix_tt h2 rfl hj (by omega)
   refine⟨hk1,(nNext,[.mk qt qx]),⟨rfl,rfl,rfl,rfl⟩,?_⟩
   rw[natV_snoc,←hq]
  ·have hk1:=ix_ff h2 rfl hj (by omega)
   rw[←hk1,←hq]
   refine aneed ⟨rfl,by decide⟩ ?_
   conv=>whnf
   rw[hw12]
   refine apc c2 ?_
   conv=>whnf
   refine aneed (by kernel_rfl) ?_
   conv=>whnf
   exact .inl rfl
end CV
open Go Go.AM Go.Proofs TR
set_option maxRecDepth 100000
namespace CV
theorem eV_agg (v:Vl):∃(a b:Int) (c:ByteArray) (d:List PV),eV v=.agg [.i .i64 a,.i .i64 b,.s c,.sl 4 d]:=by
 cases v<;>exact⟨_,_,_,_,by rw[eV]⟩
theorem fit1_spec (x:Pt) (hg:good x=true) (v:Vl) (a b:Int) (c:ByteArray) (d:List PV) (hv:eV v=.agg [.i .i64 a,.i .i64 b,.s c,.sl 4 d]):
 AMem Tryz.prog 13 [.p (eP x),.ptr 1000000000 0] [(1000000000,.cells [.p (.i .i64 a),.p (.i .i64 b),.p (.s c),.p (.sl 4 d)])] (.p (.b (fits x v))) [(1000000000,.cells [.p (.i .i64 a),.p (.i .i64 b),.p (.s c),.p (.sl 4 d)])]:=by
 have hc:=fits_spec x hg v
 rw[hv]at hc
 generalize fits x v=r at hc
 obtain⟨xk,xn,xt,xs⟩:=x
 refine AMem.intro (tyOf_ok Tryz.prog) hmix Tryz.func13 rfl (by rfl) (by kernel_rfl) (by show 2≤_;decide) rfl ?_
 conv=>whnf
 refine apc hc ?_
 conv=>whnf
 exact⟨.inl rfl,⟨.inl rfl,.inl rfl,.inl rfl,.inl rfl,trivial⟩,trivial⟩
theorem idxFit_spec (l:List Pt) (hl:l.length≤1000) (hg:∀x∈l,good x=true) (v:Vl) (a b:Int) (c:ByteArray) (d:List PV) (hv:eV v=.agg [.i .i64 a,.i .i64 b,.s c,.sl 4 d]):
 AMem Tryz.prog 12 [.p (.sl 4 (ePs l)),.fn 13 [] [.ptr 1000000000 0]] [(1000000000,.cells [.p (.i .i64 a),.p (.i .i64 b),.p (.s c),.p (.sl 4 d)])]
  (.p (.i .i64 (firstF v l 0))) [(1000000000,.cells [.p (.i .i64 a),.p (.i .i64 b),.p (.s c),.p (.sl 4 d)])]:=by
 have hc0:=fun x hx=>fit1_spec x hx v a b c d hv
 generalize hR:firstF v l 0=R
 refine AMem.intro (tyOf_ok Tryz.prog) hmix Tryz.func12 rfl (by rfl) (by kernel_rfl) (by show 2≤_;decide) rfl ?_
 conv=>whnf
 refine loopS (tyOf_ok _) hmix (by kernel_rfl) l.length [0,1,7,8] [1000000000] (fun k (_:Unit)=>[.p (.sl 4 (ePs l)),.fn 13 [] [.ptr 1000000000 0],.p (.i .i64 (ePs l).length),.p (.i .i64 (ix k))])
  (fun _ _=>[.cells [.p (.i .i64 a),.p (.i .i64 b),.p (.s c),.p (.sl 4 d)]])
  (fun k _=>firstF v (l.drop k) k=R) () ⟨rfl,rfl,rfl,rfl⟩ hR ?_
 rintro k _ hk hs1
 conv=>whnf
 refine asplit ?_ ?_<;>intro h1<;>conv=>whnf
 ·have hk1:=ix_tt h1 (by rw[ePs_len]) hk (by omega)
  obtain⟨y,hy⟩:∃b,l[k]?=some b:=⟨_,List.getElem?_eq_getElem hk1⟩
  have hc:=hc0 y (hg y (List.mem_of_getElem? hy))
  rw[drop_cons hy,firstF]at hs1
  refine aidxk (ePs_get hy) (by omega) ?_
  generalize fits y v=q at hc hs1
  obtain⟨yk,yn,yt,ys⟩:=y
  conv=>whnf
  refine amc [1000000000] 50 hc ?_
  conv=>whnf
  refine asplit ?_ ?_<;>intro h2<;>conv=>whnf
  ·subst h2
   exact⟨.inl (pi (by rw[ix_eq (by omega)];exact hs1)),⟨.inl rfl,.inl rfl,.inl rfl,.inl rfl,trivial⟩,trivial⟩
  ·subst h2
   exact⟨hk1,(),⟨rfl,rfl,rfl,rfl⟩,hs1⟩
 ·have hk1:=ix_ff h1 (by rw[ePs_len]) hk (by omega)
  rw[hk1,List.drop_length,firstF]at hs1
  exact⟨.inl (pi hs1),⟨.inl rfl,.inl rfl,.inl rfl,.inl rfl,trivial⟩,trivial⟩
def p0:LPg:=⟨nostr,0,[],[],[],[],[],[]⟩
theorem p0_ok:PgOK p0:=⟨by decide,(fun d h=>(by cases h)),(fun d h=>(by cases h)),(fun d h=>(by cases h))⟩
theorem covers_spec:APure Tryz.prog 7 [] (.p (.b true)):=by
 have c1:=missing_top p0 p0_ok [boolP 1] (by decide) (by decide) (f:=10) (by decide) (res:=some [boolP 0]) (by rfl)
 have c2:=missing_top p0 p0_ok [any1] (by decide) (by decide) (f:=10) (by decide) (res:=none) (by rfl)
 refine APure.intro (tyOf_ok Tryz.prog) hmix Tryz.func7 rfl (by rfl) (by kernel_rfl) (by show 0≤_;decide) rfl ?_
 conv=>whnf
 refine apc c1 ?_
 conv=>whnf
 refine apc c2 ?_
 conv=>whnf
 exact .inl rfl
end CV
