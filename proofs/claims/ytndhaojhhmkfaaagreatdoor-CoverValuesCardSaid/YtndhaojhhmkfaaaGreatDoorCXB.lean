/-
  DERIVED. Contracts of functions that the law reaches, and the law, for every input. No conditions.
-/
import Derived.Test.YtndhaojhhmkfaaaGreatDoorCX8
open Go Go.AM Go.Proofs TR
set_option maxRecDepth 100000
namespace CV
theorem values_spec (ev:Value) (hev:ev=.nilIface∨∃te pe,ev=.iface te pe) (ks vs:List Int) (hk:∀k∈ks,R64 k) (hv:∀k∈vs,R64 k) (hkl:ks.length≤20000000000000) (hvl:vs.length≤20000000000000):
 AMem Tryz.prog 3 [.p (.sl 1 (eI ks)),.p (.sl 1 (eI vs))] (PA.hE ev) (.p (.b true)) (PA.hE ev):=by
 obtain⟨p,hD,hlen,hP⟩:=shapes_spec ev hev
 have hok:=pg_of hD
 have hcov:=covers_spec
 obtain⟨pn,pv,pu,pd,pt,pi',pf,pa⟩:=p
 replace hlen:pd.length=2:=hlen
 unfold PA.hE at hP ⊢
 refine AMem.intro (tyOf_ok Tryz.prog) hmix Tryz.func3 rfl (by rfl) (by kernel_rfl) (by show 2≤_;decide) rfl ?_
 conv=>whnf
 refine amc [1000000000] 500 hP ?_
 conv=>whnf
 refine apc hcov ?_
 conv=>whnf
 refine asf (by rw[List.length_map,hlen];rfl) ?_
 conv=>whnf
 refine aneed (show 0≤0∧(0:Int)≤(if (7:Int)<((eI ks).length:Int) then 7 else ((eI ks).length:Int))∧(if (7:Int)<((eI ks).length:Int) then 7 else ((eI ks).length:Int))≤((eI ks).length:Int) from⟨by decide,by split<;>omega,by split<;>omega⟩) ?_
 rw[cut_take ks 7 7 rfl]
 have hkk:∀k∈ks.take 7,R64 k:=fun k h=>hk k (List.mem_of_mem_take h)
 have hkn:(ks.take 7).length≤7:=by simp;omega
 generalize ks.take 7=kk at hkk hkn
 conv=>whnf
 refine lp_nil 6 3 rfl ?_
 refine loopS (tyOf_ok _) hmix (by kernel_rfl) kk.length [1,5,6,29,30,31] [1000000000,5] (fun k (_:Unit)=>[.p (.sl 1 (eI vs)),.ptr 5 0,.so 4 (ePs ((kk.take k).map pairPF)),.p (.sl 1 (eI kk)),.p (.i .i64 (eI kk).length),.p (.i .i64 (ix k))]) (fun _ _=>[.glob 1 [ev],.cells [.p (.s pn),.p (.i .i64 pv),.p (.sl 3 (pu.map elUse)),.p (.sl 3 (pd.map elDt)),.p (.sl 2 (pt.map elTr)),.p (.sl 3 (pi'.map elIm)),.p (.sl 15 (pf.map elFu)),.p (.sl 14 (pa.map elAc))]]) (fun _ _=>True) () ⟨rfl,rfl,rfl,rfl⟩ trivial ?_
 rintro k _ hk1 -
 conv=>whnf
 refine asplit ?_ ?_<;>intro h1<;>conv=>whnf
 ·have hk2:=ix_tt h1 (by rw[eI_len]) hk1 (by omega)
  obtain⟨a,ha⟩:∃b,kk[k]?=some b:=⟨_,List.getElem?_eq_getElem hk2⟩
  have hc:=pairP_spec a (hkk a (List.mem_of_getElem? ha))
  have e1:=ePs_snoc' kk ha
  have hpl:(ePs ((kk.take k).map pairPF)).length≤7:=by rw[ePs_len];simp;omega
  generalize ePs ((kk.take k).map pairPF)=pl at e1 hpl
  generalize pairPF a=q at hc e1
  obtain⟨qk,qn,qt,qx⟩:=q
  refine aidxk (eI_get ha) (by omega) ?_
  conv=>whnf
  refine apc hc ?_
  conv=>whnf
  refine aneed (by show(_+1)*56≤_;omega) ?_
  conv=>whnf
  refine⟨hk2,(),⟨rfl,?_,rfl,rfl⟩,trivial⟩
  rw[e1];rfl
 ·have hk2:=ix_ff h1 (by rw[eI_len]) hk1 (by omega)
  subst hk2
  rw[List.take_length]
  have hl:=lok_map kk hkn
  generalize kk.map pairPF=l at hl
  have hll:=hl.len
  have hls:=hl.sz
  obtain⟨res,hr⟩:=missing_run hl.ok (by omega)
  obtain⟨t,ht⟩:=usl_run l [] 0 (by simpa using hl.ok) (by simpa using (by omega:szs l≤400))
  have c1:=missing_top ⟨pn,pv,pu,pd,pt,pi',pf,pa⟩ hok l (by omega) (fun x hx=>good_nt x (hl.good x hx)) (f:=FU) (by decide) (by rw[hD];exact hr)
  have c2:=useless_spec ⟨pn,pv,pu,pd,pt,pi',pf,pa⟩ hok hD l (by omega) hl.ok (f:=FU) (by decide) ht
  have hlaw:=fun v=>values_law (v:=v) hl.ok hr ht
  have htl:t.length≤1000000:=by have:=usl_len ht;omega
  have hres:∀r,res=r→res.isSome=r.isSome:=fun r h=>by rw[h]
  generalize (res.getD []).headD (.mk 0 0 nostr [])=q at c1
  obtain⟨qk,qn,qt,qx⟩:=q
  refine apc c1 ?_
  conv=>whnf
  refine apc c2 ?_
  conv=>whnf
  refine loopS (tyOf_ok _) hmix (by kernel_rfl) vs.length [6,10,11,50,51,52] [1000000000] (fun k (_:Unit)=>[.so 4 (ePs l),.p (.b res.isSome),.p (.sl 1 (eN t)),.p (.sl 1 (eI vs)),.p (.i .i64 (eI vs).length),.p (.i .i64 (ix k))]) (fun _ _=>[.glob 1 [ev]]) (fun _ _=>True) () ⟨rfl,rfl,rfl,rfl⟩ trivial ?_
  rintro k _ hk3 -
  conv=>whnf
  refine asplit ?_ ?_<;>intro h2<;>conv=>whnf
  ·have hk2:=ix_tt h2 (by rw[eI_len]) hk3 (by omega)
   obtain⟨a,ha⟩:∃b,vs[k]?=some b:=⟨_,List.getElem?_eq_getElem hk2⟩
   have hc:=pairV_spec a (hv a (List.mem_of_getElem? ha))
   have hla:=hlaw _ (pairV_ok a)
   refine aidxk (eI_get ha) (by omega) ?_
   generalize pairVF a=v at hc hla
   obtain⟨v1,v2,v3,v4,hvv⟩:=eV_agg v
   have hi:=idxFit_spec l (by omega) hl.good v v1 v2 v3 v4 hvv
   have hcon:=fun n=>containsN_spec t n htl
   rw[hvv]at hc
   generalize firstF v l 0=F at hi hla
   conv=>whnf
   refine apc hc ?_
   conv=>whnf
   refine amc [14] 50 hi ?_
   conv=>whnf
   rcases hla with⟨hF,hn⟩|⟨j,hF,hj⟩
   ·subst hF
    have hs:res.isSome=true:=by cases res with
     |none=>exact absurd rfl hn
     |some r=>rfl
    refine asf (show(!res.isSome)=false by rw[hs];rfl) ?_
    conv=>whnf
    exact⟨hk2,(),⟨rfl,rfl,rfl,rfl⟩,trivial⟩
   ·have hcj:=hcon j
    have hj2:t.contains j=false:=by simpa using hj
    rw[hj2]at hcj
    rw[←hF]at hcj
    refine asf (show decide (F<0)=false from decide_eq_false (by omega)) ?_
    conv=>whnf
    refine ast (show decide (F≥0)=true from decide_eq_true (by omega)) ?_
    conv=>whnf
    refine apc hcj ?_
    conv=>whnf
    exact⟨hk2,(),⟨rfl,rfl,rfl,rfl⟩,trivial⟩
  ·exact⟨.inl rfl,⟨rfl,rfl⟩,trivial⟩
end CV
