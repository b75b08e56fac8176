/-
  DERIVED. Contracts of functions that the law reaches, and the law, for every input. No conditions.
-/
import Derived.Test.YtndhaojhhmkfaaaGreatDoorCX8
open Go Go.AM Go.Proofs TR
set_option maxRecDepth 100000
namespace CV
theorem more_lists {l:List Pt} {x y:Pt} {a b:List Nat} (ha:uslF D0 FU [] (l++[x]) 0=some a) (hb:uslF D0 FU [] ((l++[x])++[y]) 0=some b):
 (b=a∧∀z∈a,z<l.length+1)∨b=a++[l.length+1]:=by
 obtain⟨s,u,h1,_,h3⟩:=uslF_snoc D0 FU (l++[x]) [] y 0 b hb
 rw[ha]at h1
 cases h1
 cases u with
 |true=>
  refine .inl ⟨by rw[h3];simp,fun z hz=>?_⟩
  have:=uslF_lt D0 FU (l++[x]) [] 0 a ha z hz
  simpa using this.2
 |false=>exact .inr (by rw[h3];simp)
theorem lok_snoc {l:List Pt} {n:Nat} (h:LOK l n) {x:Pt} (h1:okP .pair x) (h2:good x=true) (h3:sz x≤6):LOK (l++[x]) (n+1):=by
 refine⟨fun y hy=>?_,fun y hy=>?_,by have:=h.len;simp;omega,?_⟩
 ·rcases List.mem_append.1 hy with hy|hy
  ·exact h.ok y hy
  ·simp at hy;subst hy;exact h1
 ·rcases List.mem_append.1 hy with hy|hy
  ·exact h.good y hy
  ·simp at hy;subst hy;exact h2
 ·have:=h.sz
  rw[szs_app,szs,szs];omega
theorem lok_pair {l:List Pt} {n:Nat} (h:LOK l n) (k:Int):LOK (l++[pairPF k]) (n+1):=lok_snoc h (pairP_ok k) (good_pair k) (pairP_sz k)
theorem more_spec (ev:Value) (hev:ev=.nilIface∨∃te pe,ev=.iface te pe) (ks:List Int) (k1 k2:Int) (hk:∀k∈ks,R64 k) (h1:R64 k1) (h2:R64 k2) (hkl:ks.length≤20000000000000):
 AMem Tryz.prog 4 [.p (.sl 1 (eI ks)),.p (.i .i64 k1),.p (.i .i64 k2)] (PA.hE ev) (.p (.b true)) (PA.hE ev):=by
 obtain⟨p,hD,hlen,hP⟩:=shapes_spec ev hev
 have hok:=pg_of hD
 have hcov:=covers_spec
 obtain⟨pn,pv,pu,pd,pt,pi',pf,pa⟩:=p
 replace hlen:pd.length=2:=hlen
 have hp1:=pairP_spec k1 h1
 have hp2:=pairP_spec k2 h2
 clear h1 h2
 unfold PA.hE at hP ⊢
 refine AMem.intro (tyOf_ok Tryz.prog) hmix Tryz.func4 rfl (by rfl) (by kernel_rfl) (by show 3≤_;decide) rfl ?_
 conv=>whnf
 refine amc [1000000000] 500 hP ?_
 conv=>whnf
 refine apc hcov ?_
 conv=>whnf
 refine asf (by rw[List.length_map,hlen];rfl) ?_
 conv=>whnf
 refine aneed (show 0≤0∧(0:Int)≤(if (6:Int)<((eI ks).length:Int) then 6 else ((eI ks).length:Int))∧(if (6:Int)<((eI ks).length:Int) then 6 else ((eI ks).length:Int))≤((eI ks).length:Int) from⟨by decide,by split<;>omega,by split<;>omega⟩) ?_
 rw[cut_take ks 6 6 rfl]
 have hkk:∀k∈ks.take 6,R64 k:=fun k h=>hk k (List.mem_of_mem_take h)
 have hkn:(ks.take 6).length≤6:=by simp;omega
 generalize ks.take 6=kk at hkk hkn
 conv=>whnf
 refine lp_nil 8 3 rfl ?_
 refine loopS (tyOf_ok _) hmix (by kernel_rfl) kk.length [1,2,7,8,31,32,33] [1000000000,7] (fun k (_:Unit)=>[.p (.i .i64 k1),.p (.i .i64 k2),.ptr 7 0,.so 4 (ePs ((kk.take k).map pairPF)),.p (.sl 1 (eI kk)),.p (.i .i64 (eI kk).length),.p (.i .i64 (ix k))]) (fun _ _=>[.glob 1 [ev],.cells [.p (.s pn),.p (.i .i64 pv),.p (.sl 3 (pu.map elUse)),.p (.sl 3 (pd.map elDt)),.p (.sl 2 (pt.map elTr)),.p (.sl 3 (pi'.map elIm)),.p (.sl 15 (pf.map elFu)),.p (.sl 14 (pa.map elAc))]]) (fun _ _=>True) () ⟨rfl,rfl,rfl,rfl⟩ trivial ?_
 rintro k _ hk1 -
 conv=>whnf
 refine asplit ?_ ?_<;>intro h1<;>conv=>whnf
 ·have hk2:=ix_tt h1 (by rw[eI_len]) hk1 (by omega)
  obtain⟨a,ha⟩:∃b,kk[k]?=some b:=⟨_,List.getElem?_eq_getElem hk2⟩
  have hc:=pairP_spec a (hkk a (List.mem_of_getElem? ha))
  have e1:=ePs_snoc' kk ha
  have hpl:(ePs ((kk.take k).map pairPF)).length≤6:=by rw[ePs_len];simp;omega
  generalize ePs ((kk.take k).map pairPF)=pl at e1 hpl
  generalize pairPF a=q at hc e1
  obtain⟨qk,qn,qt,qx⟩:=q
  refine aidxk (eI_get ha) (by omega) ?_
  conv=>whnf
  refine apc hc ?_
  conv=>whnf
  refine aneed (by show(_+1)*56≤_;omega) ?_
  conv=>whnf
  refine⟨hk2,(),⟨rfl,?_,rfl,rfl⟩,trivial⟩
  rw[e1];rfl
 ·have hk2:=ix_ff h1 (by rw[eI_len]) hk1 (by omega)
  subst hk2
  rw[List.take_length]
  have hl:=lok_map kk hkn
  generalize kk.map pairPF=l at hl
  have hll:=hl.len
  have hls:=hl.sz
  have hx:=lok_pair hl k1
  have hy:=lok_pair hx k2
  have hxs:=hx.sz
  have hys:=hy.sz
  obtain⟨r1,hr1⟩:=missing_run hl.ok (by omega)
  obtain⟨r2,hr2⟩:=missing_run hx.ok (by omega)
  obtain⟨a,ha⟩:=usl_run (l++[pairPF k1]) [] 0 (by rw[List.nil_append];exact hx.ok) (by rw[List.nil_append];omega)
  obtain⟨b,hb⟩:=usl_run (l++[pairPF k1]++[pairPF k2]) [] 0 (by rw[List.nil_append];exact hy.ok) (by rw[List.nil_append];omega)
  have hlaw:=more_law hx.ok hr1 hr2
  have hab:=more_lists ha hb
  have hal:=usl_len ha
  simp only[List.length_append,List.length_cons,List.length_nil]at hal
  have c1:=missing_top ⟨pn,pv,pu,pd,pt,pi',pf,pa⟩ hok l (by omega) (fun x hx=>good_nt x (hl.good x hx)) (f:=FU) (by decide) (by rw[hD];exact hr1)
  have c2:=cloneOwn_spec l (by omega)
  have c3:=missing_top ⟨pn,pv,pu,pd,pt,pi',pf,pa⟩ hok (l++[pairPF k1]) (by simp;omega) (fun x hq=>good_nt x (hx.good x hq)) (f:=FU) (by decide) (by rw[hD];exact hr2)
  have c4:=useless_spec ⟨pn,pv,pu,pd,pt,pi',pf,pa⟩ hok hD (l++[pairPF k1]) (by simp;omega) hx.ok (f:=FU) (by decide) ha
  have c5:=cloneOwn_spec (l++[pairPF k1]) (by simp;omega)
  have c6:=useless_spec ⟨pn,pv,pu,pd,pt,pi',pf,pa⟩ hok hD (l++[pairPF k1]++[pairPF k2]) (by simp;omega) hy.ok (f:=FU) (by decide) hb
  have c7:=equalN_spec a (by omega)
  clear ha hb hr1 hr2 hx hy hl
  have e1:ePs (l++[pairPF k1])=ePs l++[eP (pairPF k1)]:=by rw[ePs_app];rfl
  have e2:ePs (l++[pairPF k1]++[pairPF k2])=(ePs l++[eP (pairPF k1)])++[eP (pairPF k2)]:=by rw[ePs_app,e1];rfl
  rw[e1]at c3 c4 c5
  rw[e2]at c6
  have hpl:=ePs_len l
  generalize ePs l=el at c1 c2 c3 c4 c5 c6 hpl
  generalize pairPF k1=x1 at hp1 c3 c4 c5 c6
  generalize pairPF k2=x2 at hp2 c6
  obtain⟨x1k,x1n,x1t,x1x⟩:=x1
  obtain⟨x2k,x2n,x2t,x2x⟩:=x2
  generalize (r1.getD []).headD (.mk 0 0 nostr [])=q1 at c1
  obtain⟨q1k,q1n,q1t,q1x⟩:=q1
  generalize (r2.getD []).headD (.mk 0 0 nostr [])=q2 at c3
  obtain⟨q2k,q2n,q2t,q2x⟩:=q2
  refine apc c1 ?_
  conv=>whnf
  refine amc [] 500 c2 ?_
  conv=>whnf
  refine apc hp1 ?_
  conv=>whnf
  refine aneed (by show(_+1)*56≤_;omega) ?_
  conv=>whnf
  refine apc c3 ?_
  conv=>whnf
  refine apc c4 ?_
  conv=>whnf
  refine amc [] 500 c5 ?_
  conv=>whnf
  refine apc hp2 ?_
  conv=>whnf
  refine aneed (by show(_+1)*56≤_;simp;omega) ?_
  conv=>whnf
  refine apc c6 ?_
  conv=>whnf
  refine aneed (by kernel_rfl) ?_
  conv=>whnf
  have hrr:r1.isSome=false→(!r2.isSome)=true:=fun h=>by
   cases r1 with
   |some _=>cases h
   |none=>rw[hlaw rfl];rfl
  have hbl:(eN b).length≤100:=by
   rw[eN_len]
   rcases hab with⟨rfl,_⟩|rfl
   ·omega
   ·simp;omega
  have hell:(el++[eP (.mk x1k x1n x1t x1x)]).length=l.length+1:=by simp;omega
  refine asplit ?_ ?_<;>intro h3<;>conv=>whnf
  ·have h3':0<(eN b).length:=by
    have:=of_decide_eq_true h3
    omega
   rw[eN_len]at h3'
   obtain⟨w,z,hwz⟩:∃w z,b=w++[z]:=by
    rcases List.eq_nil_or_concat b with rfl|⟨w,z,h⟩
    ·simp at h3'
    ·exact⟨w,z,by simpa using h⟩
   have hbn:(eN b).length=w.length+1:=by rw[eN_len,hwz];simp
   have hwr:IntKind.i64.wrap (((eN b).length:Int)-1)=((w.length:Nat):Int):=by rw[hbn,wrap64 (by omega) (by omega)];omega
   have hget:(eN b)[w.length]?=some (.i .i64 (z:Int)):=eN_get (by rw[hwz];simp)
   have hcut:List.drop (Int.toNat 0) (List.take ((w.length:Nat):Int).toNat (eN b))=eN w:=by
    rw[hwz,eN_app,Int.toNat_natCast,List.take_left' (eN_len w)];rfl
   rw[hwr]
   refine aidxn hget ?_
   conv=>whnf
   refine asplit ?_ ?_<;>intro h4<;>conv=>whnf
   ·have h4':(z:Int)=((el++[eP (.mk x1k x1n x1t x1x)]).length:Int):=eq_of_beq h4
    rw[hell]at h4'
    have hwa:w=a:=by
     rcases hab with⟨h6,h7⟩|h6
     ·have:=h7 z (by rw[←h6,hwz];simp)
      omega
     ·rw[hwz]at h6
      exact(List.append_inj' h6 rfl).1
    subst hwa
    rw[hwr]
    refine aneed (show 0≤0∧(0:Int)≤((w.length:Nat):Int)∧((w.length:Nat):Int)≤((eN b).length:Int) from⟨by decide,by omega,by omega⟩) ?_
    conv=>whnf
    rw[hcut]
    refine asplit ?_ ?_<;>intro h5<;>conv=>whnf
    ·refine apc c7 ?_
     conv=>whnf
     exact⟨.inl rfl,⟨rfl,rfl⟩,trivial⟩
    ·replace h5:r1.isSome=false:=h5
     refine ast (hrr h5) ?_
     conv=>whnf
     refine apc c7 ?_
     conv=>whnf
     exact⟨.inl rfl,⟨rfl,rfl⟩,trivial⟩
   ·have hba:b=a:=by
     rcases hab with⟨h6,h7⟩|h6
     ·exact h6
     ·exfalso
      rw[hwz]at h6
      have h8:z=l.length+1:=by have:=(List.append_inj' h6 rfl).2;simpa using this
      have h4':((z:Int)==((el++[eP (.mk x1k x1n x1t x1x)]).length:Int))=false:=h4
      rw[hell,h8]at h4'
      simp at h4'
    rw[hba]
    refine asplit ?_ ?_<;>intro h5<;>conv=>whnf
    ·refine apc c7 ?_
     conv=>whnf
     exact⟨.inl rfl,⟨rfl,rfl⟩,trivial⟩
    ·replace h5:r1.isSome=false:=h5
     refine ast (hrr h5) ?_
     conv=>whnf
     refine apc c7 ?_
     conv=>whnf
     exact⟨.inl rfl,⟨rfl,rfl⟩,trivial⟩
  ·have hba:b=a:=by
    rcases hab with⟨h6,h7⟩|h6
    ·exact h6
    ·exfalso
     have:=of_decide_eq_false h3
     rw[eN_len,h6]at this
     simp at this
   rw[hba]
   refine asplit ?_ ?_<;>intro h5<;>conv=>whnf
   ·refine apc c7 ?_
    conv=>whnf
    exact⟨.inl rfl,⟨rfl,rfl⟩,trivial⟩
   ·replace h5:r1.isSome=false:=h5
    refine ast (hrr h5) ?_
    conv=>whnf
    refine apc c7 ?_
    conv=>whnf
    exact⟨.inl rfl,⟨rfl,rfl⟩,trivial⟩
end CV
