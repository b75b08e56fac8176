/-
  DERIVED. Contracts of functions that the law reaches, and the law, for every input. No conditions.
-/
import Derived.Test.YtndhaojhhmkfaaaGreatDoorCX8
open Go Go.AM Go.Proofs TR
set_option maxRecDepth 100000
namespace CV
theorem lok_snoc' {l:List Pt} {n m:Nat} (h:LOK l n) {x:Pt} (h1:okP .pair x) (h2:good x=true) (h3:sz x≤m*6) (hm:1≤m):LOK (l++[x]) (n+m):=by
 refine⟨fun y hy=>?_,fun y hy=>?_,by have:=h.len;simp;omega,?_⟩
 ·rcases List.mem_append.1 hy with hy|hy
  ·exact h.ok y hy
  ·simp at hy;subst hy;exact h1
 ·rcases List.mem_append.1 hy with hy|hy
  ·exact h.good y hy
  ·simp at hy;subst hy;exact h2
 ·have:=h.sz
  rw[szs_app,szs,szs];omega
theorem whole_spec (ev:Value) (hev:ev=.nilIface∨∃te pe,ev=.iface te pe) (ks:List Int) (hk:∀k∈ks,R64 k) (hkl:ks.length≤20000000000000):
 AMem Tryz.prog 5 [.p (.sl 1 (eI ks))] (PA.hE ev) (.p (.b true)) (PA.hE ev):=by
 obtain⟨p,hD,hlen,hP⟩:=shapes_spec ev hev
 have hok:=pg_of hD
 have hcov:=covers_spec
 obtain⟨pn,pv,pu,pd,pt,pi',pf,pa⟩:=p
 replace hlen:pd.length=2:=hlen
 unfold PA.hE at hP ⊢
 refine AMem.intro (tyOf_ok Tryz.prog) hmix Tryz.func5 rfl (by rfl) (by kernel_rfl) (by show 1≤_;decide) rfl ?_
 conv=>whnf
 refine amc [1000000000] 500 hP ?_
 conv=>whnf
 refine apc hcov ?_
 conv=>whnf
 refine asf (by rw[List.length_map,hlen];rfl) ?_
 conv=>whnf
 refine aneed (show 0≤0∧(0:Int)≤(if (6:Int)<((eI ks).length:Int) then 6 else ((eI ks).length:Int))∧(if (6:Int)<((eI ks).length:Int) then 6 else ((eI ks).length:Int))≤((eI ks).length:Int) from⟨by decide,by split<;>omega,by split<;>omega⟩) ?_
 rw[cut_take ks 6 6 rfl]
 have hkk:∀k∈ks.take 6,R64 k:=fun k h=>hk k (List.mem_of_mem_take h)
 have hkn:(ks.take 6).length≤6:=by simp;omega
 generalize ks.take 6=kk at hkk hkn
 conv=>whnf
 refine lp_nil 4 3 rfl ?_
 refine loopS (tyOf_ok _) hmix (by kernel_rfl) kk.length [3,4,25,26,27] [1000000000,3] (fun k (_:Unit)=>[.ptr 3 0,.so 4 (ePs ((kk.take k).map pairPF)),.p (.sl 1 (eI kk)),.p (.i .i64 (eI kk).length),.p (.i .i64 (ix k))]) (fun _ _=>[.glob 1 [ev],.cells [.p (.s pn),.p (.i .i64 pv),.p (.sl 3 (pu.map elUse)),.p (.sl 3 (pd.map elDt)),.p (.sl 2 (pt.map elTr)),.p (.sl 3 (pi'.map elIm)),.p (.sl 15 (pf.map elFu)),.p (.sl 14 (pa.map elAc))]]) (fun _ _=>True) () ⟨rfl,rfl,rfl,rfl⟩ trivial ?_
 rintro k _ hk1 -
 conv=>whnf
 refine asplit ?_ ?_<;>intro h1<;>conv=>whnf
 ·have hk2:=ix_tt h1 (by rw[eI_len]) hk1 (by omega)
  obtain⟨a,ha⟩:∃b,kk[k]?=some b:=⟨_,List.getElem?_eq_getElem hk2⟩
  have hc:=pairP_spec a (hkk a (List.mem_of_getElem? ha))
  have e1:=ePs_snoc' kk ha
  have hpl:(ePs ((kk.take k).map pairPF)).length≤6:=by rw[ePs_len];simp;omega
  generalize ePs ((kk.take k).map pairPF)=pl at e1 hpl
  generalize pairPF a=q at hc e1
  obtain⟨qk,qn,qt,qx⟩:=q
  refine aidxk (eI_get ha) (by omega) ?_
  conv=>whnf
  refine apc hc ?_
  conv=>whnf
  refine aneed (by show(_+1)*56≤_;omega) ?_
  conv=>whnf
  refine⟨hk2,(),⟨rfl,?_,rfl,rfl⟩,trivial⟩
  rw[e1];rfl
 ·have hk2:=ix_ff h1 (by rw[eI_len]) hk1 (by omega)
  subst hk2
  rw[List.take_length]
  have hl:=lok_map kk hkn
  generalize kk.map pairPF=l at hl
  have hll:=hl.len
  have hls:=hl.sz
  obtain⟨r1,hr1⟩:=miss_run 80 [.pair] (colF l) (col_ok hl.ok) (by rw[col_sz];show 2*szs l+1<80;omega)
  replace hr1:missF D0 80 (colF l) 1=some r1:=hr1
  have c1:=missing_top ⟨pn,pv,pu,pd,pt,pi',pf,pa⟩ hok l (by omega) (fun x hx=>good_nt x (hl.good x hx)) (f:=80) (by decide) (by rw[hD];exact hr1)
  have c2:=cloneOwn_spec l (by omega)
  have hpl:=ePs_len l
  cases r1 with
  |none=>
   have hy:=lok_snoc' (m:=1) hl (x:=any1) (okP_open opn_any) rfl (by decide) (by decide)
   have hys:=hy.sz
   obtain⟨b,hb⟩:=usl_run (l++[any1]) [] 0 (by rw[List.nil_append];exact hy.ok) (by rw[List.nil_append];omega)
   have hlaw:=whole_none hl.ok hr1 hb
   have hbl:=usl_len hb
   simp only[List.length_append,List.length_cons,List.length_nil]at hbl
   have c3:=useless_spec ⟨pn,pv,pu,pd,pt,pi',pf,pa⟩ hok hD (l++[any1]) (by simp;omega) hy.ok (f:=FU) (by decide) hb
   have c4:=containsN_spec b l.length (by omega)
   rw[show b.contains l.length=true by simpa using hlaw]at c4
   rw[show ePs (l++[any1])=ePs l++[eP any1] by rw[ePs_app];rfl]at c3
   rw[←hpl]at c4
   clear hb hy hl hr1
   generalize ePs l=el at c1 c2 c3 c4 hpl
   refine apc c1 ?_
   conv=>whnf
   refine amc [] 500 c2 ?_
   conv=>whnf
   refine aneed (by show(_+1)*56≤_;omega) ?_
   conv=>whnf
   refine apc c3 ?_
   conv=>whnf
   refine apc c4 ?_
   conv=>whnf
   refine aneed (by kernel_rfl) ?_
   conv=>whnf
   exact⟨.inl rfl,⟨rfl,rfl⟩,trivial⟩
  |some r=>
   rcases missing_law hl.ok hr1 with⟨h2,_⟩|⟨q,h2,_⟩
   ·cases h2
   cases h2
   obtain⟨hq,hlu,hlx⟩:=whole_some hl.ok hr1
   have hqg:=miss_good hd_D0 80 _ _ _ hr1 q (by simp)
   have hqs:=miss_sz 80 [.pair] (colF l) [q] (col_ok hl.ok) hr1
   rw[szs,szs]at hqs
   have hy:=lok_snoc' (m:=14) hl hq hqg (by omega) (by decide)
   have hys:=hy.sz
   obtain⟨r2,hr2⟩:=missing_run hy.ok (by omega)
   obtain⟨b,hb⟩:=usl_run (l++[q]) [] 0 (by rw[List.nil_append];exact hy.ok) (by rw[List.nil_append];omega)
   replace hlu:=hlu b hb
   have hbl:=usl_len hb
   simp only[List.length_append,List.length_cons,List.length_nil]at hbl
   have c3:=missing_top ⟨pn,pv,pu,pd,pt,pi',pf,pa⟩ hok (l++[q]) (by simp;omega) (fun x hx=>good_nt x (hy.good x hx)) (f:=FU) (by decide) (by rw[hD];exact hr2)
   have c4:=useless_spec ⟨pn,pv,pu,pd,pt,pi',pf,pa⟩ hok hD (l++[q]) (by simp;omega) hy.ok (f:=FU) (by decide) hb
   have c5:=containsN_spec b l.length (by omega)
   rw[show b.contains l.length=false by simpa using hlu]at c5
   have hrr:r2=none∨∃x,r2=some [x]∧good x=true∧samP x q=false:=by
    rcases missing_law hy.ok hr2 with⟨h3,_⟩|⟨x,h3,_⟩
    ·exact .inl h3
    ·subst h3
     refine .inr ⟨x,rfl,miss_good hd_D0 FU _ _ _ hr2 x (by simp),?_⟩
     cases hs:samP x q with
     |false=>rfl
     |true=>exact absurd (samP_eq x q hs) (hlx x hr2)
   rw[show ePs (l++[q])=ePs l++[eP q] by rw[ePs_app];rfl]at c3 c4
   rw[←hpl]at c5
   have hel:((ePs l).length:Nat)≤6:=by omega
   clear hb hy hl hr1 hlx
   rcases hrr with rfl|⟨x,rfl,hxg,hxq⟩
   ·clear hr2
    generalize ePs l=el at c1 c2 c3 c4 c5 hel
    obtain⟨qk,qn,qt,qx⟩:=q
    refine apc c1 ?_
    conv=>whnf
    refine amc [] 500 c2 ?_
    conv=>whnf
    refine aneed (by show(_+1)*56≤_;omega) ?_
    conv=>whnf
    refine aneed (by kernel_rfl) ?_
    conv=>whnf
    refine apc c3 ?_
    conv=>whnf
    refine apc c4 ?_
    conv=>whnf
    refine apc c5 ?_
    conv=>whnf
    exact⟨.inl rfl,⟨rfl,rfl⟩,trivial⟩
   ·have c6:=samePat2_spec x hxg q
    rw[hxq]at c6
    clear hr2
    generalize ePs l=el at c1 c2 c3 c4 c5 hel
    obtain⟨qk,qn,qt,qx⟩:=q
    obtain⟨xk,xn,xt,xx⟩:=x
    refine apc c1 ?_
    conv=>whnf
    refine amc [] 500 c2 ?_
    conv=>whnf
    refine aneed (by show(_+1)*56≤_;omega) ?_
    conv=>whnf
    refine aneed (by kernel_rfl) ?_
    conv=>whnf
    refine apc c3 ?_
    conv=>whnf
    refine apc c4 ?_
    conv=>whnf
    refine apc c5 ?_
    conv=>whnf
    refine apc c6 ?_
    conv=>whnf
    exact⟨.inl rfl,⟨rfl,rfl⟩,trivial⟩
end CV
