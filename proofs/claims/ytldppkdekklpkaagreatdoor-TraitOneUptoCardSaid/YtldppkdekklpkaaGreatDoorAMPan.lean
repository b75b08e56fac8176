/- Part of a machine over plain values. No conditions. -/
import Derived.Test.YtldppkdekklpkaaGreatDoorTO8
import Derived.Test.YtldppkdekklpkaaGreatDoorChecked
import Derived.Tactics
import Derived.Tactics2
import Derived.Defers
import Derived.Recover
import Derived.Test.YtldppkdekklpkaaGreatDoorAMCode
import Derived.Test.YtldppkdekklpkaaGreatDoorAMUse
set_option linter.all false
section
open Go Go.AM Go.Proofs
set_option maxRecDepth 100000
namespace TR
namespace TO
theorem impls_len (l:List LIm):l.length≤PV.wts (l.map elIm):=by
 have:=wts_len (l:=l.map elIm) (fun x hx=>by obtain⟨t,_,rfl⟩:=List.mem_map.1 hx;rw[wlIm_eq];omega);simpa using this
theorem traits_len (l:List LTr):l.length≤PV.wts (l.map elTr):=by
 have:=wts_len (l:=l.map elTr) (fun x hx=>by obtain⟨t,_,rfl⟩:=List.mem_map.1 hx;rw[wlTr_eq];omega);simpa using this
theorem datas_len (l:List LDt):l.length≤PV.wts (l.map elDt):=by
 have:=wts_len (l:=l.map elDt) (fun x hx=>by obtain⟨t,_,rfl⟩:=List.mem_map.1 hx;rw[wlDt_eq];omega);simpa using this
theorem any_find {α:Type} (q:α→Bool):∀l:List α,l.any q=(l.find? q).isSome
 | []=>rfl
 |a::r=>by
  rw[List.any_cons,List.find?_cons,any_find q r]
  cases q a<;>rfl
theorem impl_spec (p:LPg) (hp:wlPg p≤1048576) (k:Nat) (x:LIm) (hx:p.impls[k]?=some x):APure Tryz.prog 11 [.p (elPg p),.p (.i .i64 (k:Int)),.p (elIm x)] (.p (.i .i64 (implF fitsF p k x))):=by
 rw[wlPg_eq]at hp;have hil:=impls_len p.impls;have htl:=traits_len p.traits;have hdl:=datas_len p.datas;have hkx:=(List.getElem?_eq_some_iff.1 hx).1;have hxw:PV.wt (elIm x)≤1048576:=by have:=wts_mem (List.mem_map.2 ⟨x,List.mem_of_getElem? hx,rfl⟩:elIm x∈p.impls.map elIm);omega
 rw[wlIm_eq]at hxw;have hfi:=find_spec p (by omega) x.tr;have hda:=data_spec p (by omega) x.fo;have hba:=basic_spec x.fo;generalize hR:implF fitsF p k x=R
 have htm:∀t,findF p.traits x.tr=some t→PV.wt (elTr t)≤1048576:=fun t ht=>by
  have:=wts_mem (List.mem_map.2 ⟨t,List.mem_of_find?_eq_some ht,rfl⟩:elTr t∈p.traits.map elTr);omega
 have hdat:(p.datas.any fun d=>d.name==x.fo)=(dataF p.datas x.fo).isSome:=any_find _ _;rw[implF,hdat]at hR;generalize findF p.traits x.tr=FT at hfi hR htm;generalize dataF p.datas x.fo=FD at hda hR;generalize basicF x.fo=FB at hba hR;obtain⟨nm,ver,us,ds,ts,is,fs,acs⟩:=p;obtain⟨xt,xf,xfs⟩:=x;simp only at *;refine APure.intro (tyOf_ok Tryz.prog) hmix Tryz.func11 rfl (by rfl) (by kernel_rfl) (by show 3≤_;decide) rfl ?_;(conv=>whnf);refine aneed (show 0≤(0:Int)∧(0:Int)≤(k:Int)∧(k:Int)≤((is.map elIm).length:Nat) by rw[List.length_map];omega) ?_;(conv=>whnf);rw[show(List.drop (0:Int).toNat (List.take (k:Int).toNat (is.map elIm)))=(is.take k).map elIm by simp[List.map_take]]
 refine loopS (tyOf_ok _) hmix (by kernel_rfl) k [3,5,19,20,21] [3,5] (fun j (_:Unit)=>[.ptr 3 0,.ptr 5 0,.p (.sl 3 ((is.take k).map elIm)),.p (.i .i64 ((is.take k).map elIm).length),.p (.i .i64 (ix j))])
  (fun _ _=>[.cells [.p (.s nm),.p (.i .i64 ver),.p (.sl 3 (us.map elUse)),.p (.sl 3 (ds.map elDt)),.p (.sl 2 (ts.map elTr)),.p (.sl 3 (is.map elIm)),.p (.sl 15 (fs.map elFu)),.p (.sl 14 (acs.map elAc))],.cells [.p (.s xt),.p (.s xf),.p (.sl 15 (xfs.map elFu))]]) (fun j _=>thereF ((is.take k).drop j) ⟨xt,xf,xfs⟩=thereF (is.take k) ⟨xt,xf,xfs⟩) () ⟨rfl,rfl,rfl,rfl⟩ rfl ?_
 intro j _ hj hs;have hlk:(is.take k).length=k:=by rw[List.length_take];omega
 (conv=>whnf);refine asplit ?_ ?_<;>intro h1<;>conv=>whnf
 ·have hj1:=ix_tt h1 (by simp[hlk];omega) hj (by omega)
  obtain⟨y,hy⟩:∃b,(is.take k)[j]?=some b:=⟨_,List.getElem?_eq_getElem (by omega)⟩
  rw[drop_cons hy,thereF,List.any_cons]at hs;refine aidxk (x:=elIm y) (by rw[List.getElem?_map,hy];rfl) (by omega) ?_;obtain⟨yt,yf,yfs⟩:=y;simp only at hs;(conv=>whnf)
  have fin:(bif (yt==xt) then (yf==xf) else false)=true→R=5:=by
   intro h
   have:thereF (is.take k) ⟨xt,xf,xfs⟩=true:=by
    rw[←hs]
    cases h1:yt==xt with
    |true=>rw[h1,cond_true]at h;rw[h];rfl
    |false=>rw[h1,cond_false]at h;cases h
   rw[this]at hR;exact hR.symm
  have go:(bif (yt==xt) then (yf==xf) else false)=false→thereF ((is.take k).drop (j+1)) ⟨xt,xf,xfs⟩=thereF (is.take k) ⟨xt,xf,xfs⟩:=by
   intro h;rw[←hs]
   have:(yt==xt&&yf==xf)=false:=by
    cases h1:yt==xt with
    |true=>rw[h1,cond_true]at h;rw[h];rfl
    |false=>rfl
   rw[this,Bool.false_or];rfl
  refine asplit ?_ ?_<;>intro h2<;>conv=>whnf
  ·rw[bl_iff]at h2
   rw[h2,cond_true]at fin go;refine asplit ?_ ?_<;>intro h3<;>conv=>whnf
   ·rw[bl_iff]at h3
    rw[fin h3];exact .inl rfl
   ·rw[bl_iff]at h3
    exact⟨by omega,(),⟨rfl,rfl,rfl,rfl⟩,go h3⟩
  ·rw[bl_iff]at h2
   rw[h2,cond_false]at fin go;exact⟨by omega,(),⟨rfl,rfl,rfl,rfl⟩,go rfl⟩
 ·have hj1:=ix_ff h1 (by simp[hlk];omega) hj (by omega)
  have hno:thereF (is.take k) ⟨xt,xf,xfs⟩=false:=by rw[←hs,hj1,List.drop_eq_nil_of_le (by omega)];rfl
  rw[hno,cond_false]at hR;clear hs hno
  cases FT with
  |none=>
   refine apc hfi ?_;(conv=>whnf);simp only at hR;subst hR;exact .inl rfl
  |some t=>
   have htw:=htm t rfl;obtain⟨tn,tfs⟩:=t;simp only at hR;refine apc hfi ?_;(conv=>whnf);rw[wlTr_eq]at htw;simp only at htw;have hxl:=funcs_len xfs;have htfl:=funcs_len tfs;refine apc hba ?_;(conv=>whnf);refine asplit ?_ ?_<;>intro g0<;>conv=>whnf
   ·rw[Bool.not_eq_true']at g0
    subst g0
    cases FD with
    |none=>
     refine apc hda ?_;(conv=>whnf);simp only[Bool.not_false,Option.isSome_none,Bool.and_self,cond_true]at hR;subst hR;exact .inl rfl
    |some d=>
     obtain⟨dn,dps,dms⟩:=d;refine apc hda ?_;(conv=>whnf);simp only[Option.isSome_some,Bool.not_true,Bool.and_false,cond_false]at hR;refine asplit ?_ ?_<;>intro g1<;>conv=>whnf
     ·replace g1:(((xfs.map elFu).length:Int) != ((tfs.map elFu).length:Int))=true:=g1
      rw[List.length_map,List.length_map]at g1;have:(xfs.length==tfs.length)=false:=by simp at g1 ⊢;omega
      rw[this]at hR;subst hR;exact .inl rfl
     ·replace g1:(((xfs.map elFu).length:Int) != ((tfs.map elFu).length:Int))=false:=g1
      rw[List.length_map,List.length_map]at g1;have hlen:xfs.length=tfs.length:=by simp at g1;omega
      have:(xfs.length==tfs.length)=true:=by simp[hlen]
      rw[this]at hR;simp only[cond_true]at hR
      refine loopS (tyOf_ok _) hmix (by kernel_rfl) xfs.length [5,9,70,71,72] [5,9] (fun j (_:Unit)=>[.ptr 5 0,.ptr 9 0,.p (.sl 15 (xfs.map elFu)),.p (.i .i64 (xfs.map elFu).length),.p (.i .i64 (ix j))])
       (fun _ _=>[.cells [.p (.s xt),.p (.s xf),.p (.sl 15 (xfs.map elFu))],.cells [.p (.s tn),.p (.sl 15 (tfs.map elFu))]]) (fun j _=>funcsF fitsF ⟨xt,xf,xfs⟩ (xfs.drop j) (tfs.drop j)=R) () ⟨rfl,rfl,rfl,rfl⟩ hR ?_
      intro j _ hj hs;(conv=>whnf);refine asplit ?_ ?_<;>intro g2<;>conv=>whnf
      ·have hj1:=ix_tt g2 (by simp) hj (by omega)
       obtain⟨a,ha⟩:∃b,xfs[j]?=some b:=⟨xfs[j],by simp[hj1]⟩
       obtain⟨b,hb⟩:∃b,tfs[j]?=some b:=⟨tfs[j],by simp[←hlen,hj1]⟩
       rw[drop_cons ha,drop_cons hb,funcsF]at hs;have hfit:=fits_spec ⟨xt,xf,xfs⟩ a b (by have:=fu_mem (List.mem_of_getElem? ha);omega) (by have:=fu_mem (List.mem_of_getElem? hb);omega);generalize fitsF ⟨xt,xf,xfs⟩ a b=q at hfit hs;refine aidxk (x:=elFu a) (by rw[List.getElem?_map,ha];rfl) (by omega) ?_;obtain⟨an,aps,ans,ats,⟨aok,aon,aox⟩,⟨ak,an2,at2,ans2,ats2,ax,am,ap⟩⟩:=a;(conv=>whnf);refine aidxk (x:=elFu b) (by rw[List.getElem?_map,hb];rfl) (by omega) ?_;obtain⟨bn,bps,bns,bts,⟨bok,bon,box⟩,⟨bk,bn2,bt2,bns2,bts2,bx,bm,bp⟩⟩:=b;(conv=>whnf)
       first|refine aneed (.inl (by kernel_rfl)) ?_|refine aneed (by kernel_rfl) ?_
       (conv=>whnf);refine asplit ?_ ?_<;>intro g3<;>conv=>whnf
       ·replace g3:(!(an.toList==bn.toList))=true:=g3
        rw[bl_iff,Bool.not_eq_true']at g3;simp only[g3,cond_false]at hs;subst hs;exact .inl rfl
       ·replace g3:(!(an.toList==bn.toList))=false:=g3
        rw[bl_iff,Bool.not_eq_false']at g3;simp only[g3,cond_true]at hs;refine aidxk (x:=elFu ⟨bn,bps,bns,bts,.mk bok bon box,.mk bk bn2 bt2 bns2 bts2 bx bm bp⟩) (by rw[List.getElem?_map,hb];rfl) (by omega) ?_;(conv=>whnf);refine apc hfit ?_;(conv=>whnf)
        first|refine aneed (.inl (by kernel_rfl)) ?_|refine aneed (by kernel_rfl) ?_
        (conv=>whnf);refine asplit ?_ ?_<;>intro g4<;>conv=>whnf
        ·replace g4:(q != 0)=true:=g4
         have:(q==0)=false:=by simpa[bne] using g4
         rw[this,cond_false]at hs;subst hs;exact .inl rfl
        ·replace g4:(q != 0)=false:=g4
         have:(q==0)=true:=by simpa[bne] using g4
         rw[this,cond_true]at hs;exact⟨hj1,(),⟨rfl,rfl,rfl,rfl⟩,hs⟩
      ·have hj1:=ix_ff g2 (by simp) hj (by omega)
       rw[List.drop_eq_nil_of_le (by omega:xfs.length≤j),funcsF]at hs
       ·subst hs
        exact .inl rfl
       ·simp
   ·rw[Bool.not_eq_false']at g0
    subst g0;simp only[Bool.not_true,Bool.false_and,cond_false]at hR;refine asplit ?_ ?_<;>intro g1<;>conv=>whnf
    ·replace g1:(((xfs.map elFu).length:Int) != ((tfs.map elFu).length:Int))=true:=g1
     rw[List.length_map,List.length_map]at g1;have:(xfs.length==tfs.length)=false:=by simp at g1 ⊢;omega
     rw[this]at hR;subst hR;exact .inl rfl
    ·replace g1:(((xfs.map elFu).length:Int) != ((tfs.map elFu).length:Int))=false:=g1
     rw[List.length_map,List.length_map]at g1;have hlen:xfs.length=tfs.length:=by simp at g1;omega
     have:(xfs.length==tfs.length)=true:=by simp[hlen]
     rw[this]at hR;simp only[cond_true]at hR
     refine loopS (tyOf_ok _) hmix (by kernel_rfl) xfs.length [5,9,70,71,72] [5,9] (fun j (_:Unit)=>[.ptr 5 0,.ptr 9 0,.p (.sl 15 (xfs.map elFu)),.p (.i .i64 (xfs.map elFu).length),.p (.i .i64 (ix j))])
      (fun _ _=>[.cells [.p (.s xt),.p (.s xf),.p (.sl 15 (xfs.map elFu))],.cells [.p (.s tn),.p (.sl 15 (tfs.map elFu))]]) (fun j _=>funcsF fitsF ⟨xt,xf,xfs⟩ (xfs.drop j) (tfs.drop j)=R) () ⟨rfl,rfl,rfl,rfl⟩ hR ?_
     intro j _ hj hs;(conv=>whnf);refine asplit ?_ ?_<;>intro g2<;>conv=>whnf
     ·have hj1:=ix_tt g2 (by simp) hj (by omega)
      obtain⟨a,ha⟩:∃b,xfs[j]?=some b:=⟨xfs[j],by simp[hj1]⟩
      obtain⟨b,hb⟩:∃b,tfs[j]?=some b:=⟨tfs[j],by simp[←hlen,hj1]⟩
      rw[drop_cons ha,drop_cons hb,funcsF]at hs;have hfit:=fits_spec ⟨xt,xf,xfs⟩ a b (by have:=fu_mem (List.mem_of_getElem? ha);omega) (by have:=fu_mem (List.mem_of_getElem? hb);omega);generalize fitsF ⟨xt,xf,xfs⟩ a b=q at hfit hs;refine aidxk (x:=elFu a) (by rw[List.getElem?_map,ha];rfl) (by omega) ?_;obtain⟨an,aps,ans,ats,⟨aok,aon,aox⟩,⟨ak,an2,at2,ans2,ats2,ax,am,ap⟩⟩:=a;(conv=>whnf);refine aidxk (x:=elFu b) (by rw[List.getElem?_map,hb];rfl) (by omega) ?_;obtain⟨bn,bps,bns,bts,⟨bok,bon,box⟩,⟨bk,bn2,bt2,bns2,bts2,bx,bm,bp⟩⟩:=b;(conv=>whnf)
      first|refine aneed (.inl (by kernel_rfl)) ?_|refine aneed (by kernel_rfl) ?_
      (conv=>whnf);refine asplit ?_ ?_<;>intro g3<;>conv=>whnf
      ·replace g3:(!(an.toList==bn.toList))=true:=g3
       rw[bl_iff,Bool.not_eq_true']at g3;simp only[g3,cond_false]at hs;subst hs;exact .inl rfl
      ·replace g3:(!(an.toList==bn.toList))=false:=g3
       rw[bl_iff,Bool.not_eq_false']at g3;simp only[g3,cond_true]at hs;refine aidxk (x:=elFu ⟨bn,bps,bns,bts,.mk bok bon box,.mk bk bn2 bt2 bns2 bts2 bx bm bp⟩) (by rw[List.getElem?_map,hb];rfl) (by omega) ?_;(conv=>whnf);refine apc hfit ?_;(conv=>whnf)
       first|refine aneed (.inl (by kernel_rfl)) ?_|refine aneed (by kernel_rfl) ?_
       (conv=>whnf);refine asplit ?_ ?_<;>intro g4<;>conv=>whnf
       ·replace g4:(q != 0)=true:=g4
        have:(q==0)=false:=by simpa[bne] using g4
        rw[this,cond_false]at hs;subst hs;exact .inl rfl
       ·replace g4:(q != 0)=false:=g4
        have:(q==0)=true:=by simpa[bne] using g4
        rw[this,cond_true]at hs;exact⟨hj1,(),⟨rfl,rfl,rfl,rfl⟩,hs⟩
     ·have hj1:=ix_ff g2 (by simp) hj (by omega)
      rw[List.drop_eq_nil_of_le (by omega:xfs.length≤j),funcsF]at hs
      ·subst hs
       exact .inl rfl
      ·simp
end TO
end TR
end
section
open Go Go.AM Go.Proofs
set_option maxRecDepth 100000
namespace TR
namespace TO
theorem program_spec (p:LPg) (hp:wlPg p≤1048576):APure Tryz.prog 5 [.p (elPg p)] (.p (.i .i64 (progF traitF fitsF p))):=by
 have hp':=hp;rw[wlPg_eq]at hp';have hil:=impls_len p.impls;have htl:=traits_len p.traits;have himp:=fun k x hx=>impl_spec p hp k x hx;have htr:=fun t (ht:t∈p.traits)=>trait_spec t (by have:=wts_mem (List.mem_map.2 ⟨t,ht,rfl⟩:elTr t∈p.traits.map elTr);omega);generalize hR:progF traitF fitsF p=R;rw[progF]at hR;have hpp:∀k x,implF fitsF p k x=implF fitsF p k x:=fun _ _=>rfl;generalize hI:implF fitsF p=I at himp;have hIs:∀k l,implsF fitsF p k l=implsF fitsF p k l:=fun _ _=>rfl;have hi1:∀k x r,implsF fitsF p k (x::r)=bif I k x==0 then implsF fitsF p (k+1) r else I k x:=fun k x r=>by rw[implsF,hI]
 have hi0:∀k,implsF fitsF p k []=0:=fun k=>by rw[implsF]
 generalize implsF fitsF p=J at hR hi1 hi0;clear hpp hIs hI hp;obtain⟨nm,ver,us,ds,ts,is,fs,acs⟩:=p;simp only at *;refine APure.intro (tyOf_ok Tryz.prog) hmix Tryz.func5 rfl (by rfl) (by kernel_rfl) (by show 1≤_;decide) rfl ?_;(conv=>whnf)
 refine loopS (tyOf_ok _) hmix (by kernel_rfl) ts.length [1,10,11,12] [1] (fun k (_:Unit)=>[.ptr 1 0,.p (.sl 2 (ts.map elTr)),.p (.i .i64 (ts.map elTr).length),.p (.i .i64 (ix k))])
  (fun _ _=>[.cells [.p (.s nm),.p (.i .i64 ver),.p (.sl 3 (us.map elUse)),.p (.sl 3 (ds.map elDt)),.p (.sl 2 (ts.map elTr)),.p (.sl 3 (is.map elIm)),.p (.sl 15 (fs.map elFu)),.p (.sl 14 (acs.map elAc))]]) (fun k _=>traitsF traitF (ts.drop k)=traitsF traitF ts) () ⟨rfl,rfl,rfl,rfl⟩ rfl ?_
 intro k _ hk hs;(conv=>whnf);refine asplit ?_ ?_<;>intro h1<;>conv=>whnf
 ·have hk1:=ix_tt h1 (by simp) hk (by omega)
  obtain⟨b,hb⟩:∃b,ts[k]?=some b:=⟨ts[k],by simp[hk1]⟩
  rw[drop_cons hb,traitsF]at hs;have hc:=htr b (List.mem_of_getElem? hb);generalize traitF b=q at hc hs;refine aidxk (x:=elTr b) (by rw[List.getElem?_map,hb];rfl) (by omega) ?_;obtain⟨bn,bfs⟩:=b;(conv=>whnf);refine apc hc ?_;(conv=>whnf);refine asplit ?_ ?_<;>intro h2<;>conv=>whnf
  ·replace h2:(q != 0)=true:=h2
   have h3:(q==0)=false:=by simpa[bne] using h2
   rw[h3,cond_false]at hs;rw[←hs,h3,cond_false]at hR;subst hR;exact .inl rfl
  ·replace h2:(q != 0)=false:=h2
   have h3:(q==0)=true:=by simpa[bne] using h2
   rw[h3,cond_true]at hs;exact⟨hk1,(),⟨rfl,rfl,rfl,rfl⟩,hs⟩
 ·have hk1:=ix_ff h1 (by simp) hk (by omega)
  rw[List.drop_eq_nil_of_le (by omega:ts.length≤k),traitsF]at hs;rw[←hs]at hR;simp only[beq_self_eq_true,cond_true]at hR
  refine loopS (tyOf_ok _) hmix (by kernel_rfl) is.length [1,23,24,25] [1] (fun k (_:Unit)=>[.ptr 1 0,.p (.sl 3 (is.map elIm)),.p (.i .i64 (is.map elIm).length),.p (.i .i64 (ix k))])
   (fun _ _=>[.cells [.p (.s nm),.p (.i .i64 ver),.p (.sl 3 (us.map elUse)),.p (.sl 3 (ds.map elDt)),.p (.sl 2 (ts.map elTr)),.p (.sl 3 (is.map elIm)),.p (.sl 15 (fs.map elFu)),.p (.sl 14 (acs.map elAc))]]) (fun k _=>J k (is.drop k)=R) () ⟨rfl,rfl,rfl,rfl⟩ hR ?_
  clear hk hk1 h1 hs k;intro k _ hk hs;(conv=>whnf);refine asplit ?_ ?_<;>intro h1<;>conv=>whnf
  ·have hk1:=ix_tt h1 (by simp) hk (by omega)
   obtain⟨b,hb⟩:∃b,is[k]?=some b:=⟨is[k],by simp[hk1]⟩
   rw[drop_cons hb,hi1]at hs;have hc:=himp k b hb;generalize I k b=q at hc hs;rw[←ix_eq (k:=k) (by omega)]at hc;refine aidxk (x:=elIm b) (by rw[List.getElem?_map,hb];rfl) (by omega) ?_;obtain⟨bt,bf,bfs⟩:=b;(conv=>whnf);refine apc hc ?_;(conv=>whnf);refine asplit ?_ ?_<;>intro h2<;>conv=>whnf
   ·replace h2:(q != 0)=true:=h2
    have h3:(q==0)=false:=by simpa[bne] using h2
    rw[h3,cond_false]at hs;subst hs;exact .inl rfl
   ·replace h2:(q != 0)=false:=h2
    have h3:(q==0)=true:=by simpa[bne] using h2
    rw[h3,cond_true]at hs;exact⟨hk1,(),⟨rfl,rfl,rfl,rfl⟩,hs⟩
  ·have hk1:=ix_ff h1 (by simp) hk (by omega)
   rw[List.drop_eq_nil_of_le (by omega:is.length≤k),hi0]at hs;subst hs;exact .inl rfl
end TO
end TR
end
section
open Go Go.AM Go.Proofs
set_option maxRecDepth 100000
namespace TR
namespace TO
def idxI (n h:ByteArray):List LIm→Nat→Int×Int
 | [],_=>(0,4)
 |x::r,k=>bif (bif x.tr==n then x.fo==h else false) then ((k:Int),0) else idxI n h r (k+1)
theorem idxI_get (n h:ByteArray):∀(l:List LIm) (k:Nat),(idxI n h l k=(0,4))∨∃j y,idxI n h l k=(((k+j:Nat):Int),0)∧l[j]?=some y∧y.tr=n∧y.fo=h
 | [],k=>.inl rfl
 |x::r,k=>by
  rw[idxI]
  cases h1:(bif x.tr==n then x.fo==h else false) with
  |true=>
   rw[cond_true]
   right
   cases h2:x.tr==n with
   |false=>rw[h2]at h1;cases h1
   |true=>
    rw[h2,cond_true]at h1;exact⟨0,x,rfl,rfl,(beq_bytes _ _).1 h2,(beq_bytes _ _).1 h1⟩
  |false=>
   rw[cond_false];rcases idxI_get n h r (k+1) with q|⟨j,y,q1,q2,q3⟩
   ·exact .inl q
   ·exact .inr ⟨j+1,y,by rw[q1];congr 2;omega,by simpa using q2,q3⟩
theorem Impl_spec (p:LPg) (hp:wlPg p≤1048576) (n:ByteArray) (t:Ty):APure Tryz.prog 6 [.p (elPg p),.p (.s n),.p (eT t)] (.tup [.p (.i .i64 (idxI n (headF t) p.impls 0).1),.p (.i .i64 (idxI n (headF t) p.impls 0).2)]):=by
 rw[wlPg_eq]at hp;have hil:=impls_len p.impls;have hh:=head_spec t;generalize headF t=h at hh ⊢;generalize hR:idxI n h p.impls 0=R;obtain⟨nm,ver,us,ds,ts,is,fs,acs⟩:=p;obtain⟨tk,tn,tx⟩:=t;simp only at *;refine APure.intro (tyOf_ok Tryz.prog) hmix Tryz.func6 rfl (by rfl) (by kernel_rfl) (by show 3≤_;decide) rfl ?_;(conv=>whnf);refine apc hh ?_;(conv=>whnf);refine loopS (tyOf_ok _) hmix (by kernel_rfl) is.length [1,8,14,15,16] [] (fun k (_:Unit)=>[.p (.s n),.p (.s h),.p (.sl 3 (is.map elIm)),.p (.i .i64 (is.map elIm).length),.p (.i .i64 (ix k))]) (fun _ _=>[]) (fun k _=>idxI n h (is.drop k) k=R) () ⟨rfl,rfl,rfl,rfl⟩ hR ?_;intro k _ hk hs;(conv=>whnf);refine asplit ?_ ?_<;>intro h1<;>conv=>whnf
 ·have hk1:=ix_tt h1 (by simp) hk (by omega)
  obtain⟨b,hb⟩:∃b,is[k]?=some b:=⟨is[k],by simp[hk1]⟩
  rw[drop_cons hb,idxI]at hs;refine aidxk (x:=elIm b) (by rw[List.getElem?_map,hb];rfl) (by omega) ?_;obtain⟨bt,bf,bfs⟩:=b;simp only at hs;(conv=>whnf);refine asplit ?_ ?_<;>intro h2<;>conv=>whnf
  ·rw[bl_iff]at h2
   rw[h2,cond_true]at hs;refine asplit ?_ ?_<;>intro h3<;>conv=>whnf
   ·rw[bl_iff]at h3
    rw[h3,cond_true]at hs;subst hs;rw[ix_eq (by omega)];exact .inl rfl
   ·rw[bl_iff]at h3
    rw[h3,cond_false]at hs;exact⟨hk1,(),⟨rfl,rfl,rfl,rfl⟩,hs⟩
  ·rw[bl_iff]at h2
   rw[h2,cond_false,cond_false]at hs;exact⟨hk1,(),⟨rfl,rfl,rfl,rfl⟩,hs⟩
 ·have hk1:=ix_ff h1 (by simp) hk (by omega)
  rw[List.drop_eq_nil_of_le (by omega:is.length≤k),idxI]at hs;subst hs;exact .inl rfl
end TO
end TR
end
section
open Go Go.Proofs
set_option maxRecDepth 100000
namespace PA
theorem assert_nil (w:World):(Instr.typeAssert .nilIface 20 77 true).run Tryz.prog w=.ok (.tuple #[.agg #[.int .i64 0],.bool false]) w:=by kernel_rfl
theorem neq_nil (w:World):(binOp .neq 20 .nilIface .nilIface).run Tryz.prog w=.ok (.bool false) w:=by kernel_rfl
set_option maxHeartbeats 1000000 in
theorem catch_idle (p q r:Addr) (w:World):
 CallsD Tryz.prog 34 #[.pointer (some p),.pointer (some q),.pointer (some r)] .returning w fun e u' w'=>e=.returned (.tuple #[])∧u'=.returning∧w'=(w.alloc (.cells #[.int .i64 0] 77)).setCell ⟨w.heap.size,0,none⟩ (.int .i64 0):=by
 refine callsD_of_wpS Tryz.func34 rfl fun c₀ cs hu=>?_
 apply wpS_seq
 apply wpS_region
 simp[wpOpsS,go_sem,recoverD,hu,Tryz.ntmps34,Exit.thenS]
 apply wpS_seq
 apply wpS_region
 simp[wpOpsS,go_sem,Exit.thenS,assert_nil]
 apply wpS_seq
 apply wpS_region
 simp[wpOpsS,go_sem,Exit.thenS];refine wpS_cond (t:=false) (by simp[Act.eval,Array.replicate]) ?_;simp only[Bool.false_eq_true,if_false]
 apply wpS_seq
 apply wpS_region
 simp[wpOpsS,go_sem,Exit.thenS,neq_nil];refine wpS_cond (t:=false) (by simp[Act.eval,Array.replicate]) ?_;simp only[Bool.false_eq_true,if_false];refine wpS_of_wp (wp_skip ?_);cases c₀
 simp_all [bodyPostS,results,Tryz.results34]
end PA
end
section
namespace Go.AM
section
variable {P:Program} {ty:Nat→Option TI} {n:Nat}
theorem AWp.seq {x y:Code} {K:Exit→Env→Heap→Prop} {e:Env} {h:Heap} (hk:AWp P n x (fun ex e' h'=>match ex with|.normal=>AWp P n y K e' h'|ex=>K ex e' h') e h):AWp P n (.seq x y) K e h:=by
 intro g0 w0 g w a s hE;refine wp_seq (wp_mono (hk g0 w0 g w a s hE) ?_);rintro ex a' w' ⟨g',e',h',hk',s',hE'⟩
 cases ex with
 |normal=>exact hk' g0 w0 g' w' a' s' hE'
 |_=>exact⟨g',e',h',hk',s',hE'⟩
theorem AWp.mask {c:Code} {K:Exit→Env→Heap→Prop} {lv ll:List Nat} {vals:List AV} {objs:List AObj} {e:Env} {h:Heap} (h0:Atv lv ll vals objs e h) (hk:AWp P n c K (lv.zip vals) (ll.zip objs)):AWp P n c K e h:=by
 intro g0 w0 g w a s hE;refine hk g0 w0 g w a ?_ hE;have:=s.mask (lv:=lv) (ll:=ll) h0.1 (by rw[h0.2.1];exact h0.2.2.1) h0.2.2.2;rw[h0.2.1]at this;exact this
noncomputable def awpS (ty:Nat→Option TI) (P:Program) (n:Nat) (T:Env→Heap→Prop) (K:Exit→Env→Heap→Prop) (k:Nat):Code→Env→Heap→Prop:=
 @Nat.rec (fun _=>Code→Env→Heap→Prop) (fun _ e h=>T e h)
  (fun _ ih c=>@Code.rec (fun _=>Env→Heap→Prop) (fun _ _=>False) (fun _ _ _ _ _=>False)
    (fun x y _ _ e h=>awp ty (pcall P) (lpOf P n) x (fun ex e' h'=>match ex with|.normal=>ih y e' h'|ex=>K ex e' h') e h)
    (fun _ _ _ _ _ _ _=>False) (fun _ _ _ _ _=>False) (fun _ _ _ _=>False) (fun _ _ _ _ _ _ _ _=>False) (fun _ _ _=>False) (fun _ _ _ _=>False) (fun _ _ _=>False) (fun _ _ _=>False) (fun _ _=>False) (fun _ _ _=>False) c) k
noncomputable def restS (k:Nat):Code→Code:=
 @Nat.rec (fun _=>Code→Code) (fun c=>c)
  (fun _ ih c=>@Code.rec (fun _=>Code) c (fun _ _ _=>c) (fun _ y _ _=>ih y) (fun _ _ _ _ _=>c) (fun _ _ _=>c) (fun _ _=>c) (fun _ _ _ _ _ _=>c) (fun _=>c) (fun _ _=>c) (fun _=>c) (fun _=>c) c (fun _=>c) c) k
theorem awpS_sound (hty:TyOK P ty) (hmix:P.follows .mixedOrders=true) {T:Env→Heap→Prop} {K:Exit→Env→Heap→Prop}:∀(k:Nat) (c:Code) (e:Env) (h:Heap),codeOK n c=true→(∀e h,T e h→AWp P n (restS k c) K e h)→awpS ty P n T K k c e h→AWp P n c K e h
 |0,c,e,h,_,hT,hk=>hT e h hk
 |k+1,.seq x y,e,h,hok,hT,hk=>by
  have hok:codeOK n x=true∧codeOK n y=true:=by simpa[codeOK] using hok
  refine AWp.seq ?_;intro g0 w0 g w a s hE;refine wp_mono (awp_sound hty hmix x _ e h hok.1 hk g0 w0 g w a s hE) ?_;rintro ex a' w' ⟨g',e',h',hk',s',hE'⟩;refine⟨g',e',h',?_,s',hE'⟩
  cases ex with
  |normal=>exact awpS_sound hty hmix k y e' h' hok.2 hT hk'
  |_=>exact hk'
 |_+1,.skip,_,_,_,_,hk=>hk.elim
 |_+1,.region ..,_,_,_,_,hk=>hk.elim
 |_+1,.cond ..,_,_,_,_,hk=>hk.elim
 |_+1,.block ..,_,_,_,_,hk=>hk.elim
 |_+1,.exit _,_,_,_,_,hk=>hk.elim
 |_+1,.ret,_,_,_,_,hk=>hk.elim
 |_+1,.loop _,_,_,_,_,hk=>hk.elim
 |_+1,.rangeFunc ..,_,_,_,_,hk=>hk.elim
 |_+1,.scope _,_,_,_,_,hk=>hk.elim
 |_+1,.label _,_,_,_,_,hk=>hk.elim
 |_+1,.goto _,_,_,_,_,hk=>hk.elim
 |_+1,.refuse _,_,_,_,_,hk=>hk.elim
theorem AWp.cut (hty:TyOK P ty) (hmix:P.follows .mixedOrders=true) {c:Code} {K:Exit→Env→Heap→Prop} {e:Env} {h:Heap} (hok:codeOK n c=true) (k:Nat) (lv ll:List Nat) {σ:Type} (V:σ→List AV) (O:σ→List AObj) (Q:σ→Prop)
 (h1:awpS ty P n (fun e h=>∃s,Atv lv ll (V s) (O s) e h∧Q s) K k c e h) (h2:∀s,Q s→AWp P n (restS k c) K (lv.zip (V s)) (ll.zip (O s))):AWp P n c K e h:=
 awpS_sound hty hmix k c e h hok (fun e h ⟨s,ha,hq⟩=>AWp.mask ha (h2 s hq)) h1
theorem AWp.fin (hty:TyOK P ty) (hmix:P.follows .mixedOrders=true) {c:Code} {K:Exit→Env→Heap→Prop} {e:Env} {h:Heap} (hok:codeOK n c=true) (hk:awp ty (pcall P) (lpOf P n) c K e h):AWp P n c K e h:=awp_sound hty hmix c K e h hok hk
theorem APure.introS (hty:TyOK P ty) {f:Nat} {fn:Func} {c:Code} {args:List AV} {r:AV} (hf:P.funcs[f]?=some fn) (hb:fn.body=some c) (hname:(fn.name== "runtime.NumGoroutine")=false)
 (hlen:args.length≤fn.ntmps) (hr:okRes r=true)
 (hk:AWp P fn.ntmps c (retK ty fn.results.toList fn.resultTypes.toList r) (argEnv 0 args) []):APure P f args r:=by
 refine⟨⟨fn,c,hf,hb,hname⟩,fun g w vs hno hsw hl hrel=>?_⟩
 have s0:=Sim.start (fn:=fn) (hs:=[]) hlen (g:=g) (w:=w) ⟨fun l o q=>by simp[hget]at q,fun l o q=>by simp[hget]at q,fun l o q=>by simp[hget]at q⟩ (fun b o q=>by rw[hno b]at q;cases q) hl
  (fun j v x q1 q2=>(hrel j v x q1 q2).domUp (fun _ q=>q.elim))
 refine calls_of_wp hf hb (wp_mono (hk g w g w _ s0 (Ext.refl _ _)) ?_);rintro ex a' w' ⟨g1,e1,h1,hk1,s1,hE1⟩
 have fin:(match resOf ty fn.results.toList fn.resultTypes.toList e1 h1 with|some v=>RetOKB h1 v r|none=>False)→a'.defers=[]∧∃v,(results fn a'.tmps).run P w'=.ok v w'∧(∃v1 g',Ending.returned v=.returned v1∧VRel g' w' (fun _=>False) (some .ret) v1 r∧Ext g w g' w'):=by
  intro hq;refine⟨s1.defers,?_⟩;split at hq
  ·rename_i x hx
   obtain⟨v,hrun,t,hv⟩:=resOf_rel (P:=P) hty s1 hx;refine⟨v,hrun,?_⟩;rcases hq with rfl|rfl|⟨hbor,hqs⟩
   ·obtain⟨g',q1,q2⟩:=okRes_rel hno hE1 hr hv;exact⟨v,g',rfl,q1,q2⟩
   ·obtain⟨g',q1,q2⟩:=okRes_rel hno hE1 hr (t:=t) hv.copy;exact⟨v,g',rfl,q1,q2⟩
   ·refine⟨v,g1.lay w',rfl,(bor_rel s1.heap hv hbor hqs).fromNone,hE1.size,hE1.os,hE1.out,fun b k u hu=>imm_show (hE1.imm b k u hu),fun b hb hn=>⟨(hE1.kept b hb hn).1,?_,rfl⟩,⟨hE1.frz.1,funext fun q=>(hsw q).symm,hE1.frz.2.2⟩,hE1.frz',hE1.ρk,hE1.siz⟩
    show layPre g1 w' b=g.pre b;unfold layPre;rw[(hE1.kept b hb hn).2.2];exact(hE1.kept b hb hn).2.1
  ·exact hq.elim
 cases ex with
 |normal=>exact fin hk1
 |ret=>exact fin hk1
 |_=>exact hk1.elim
theorem AMem.introS (hty:TyOK P ty) {f:Nat} {fn:Func} {c:Code} {args:List AV} {hs:Heap} {r:AV} {h':Heap} (hf:P.funcs[f]?=some fn) (hb:fn.body=some c) (hname:(fn.name== "runtime.NumGoroutine")=false)
 (hlen:args.length≤fn.ntmps) (hr:(r.within (memB (keysOf h'))&&objsIn (memB (keysOf h')) h'&&globB hs h')=true)
 (hk:AWp P fn.ntmps c (retKM ty fn.results.toList fn.resultTypes.toList r h') (argEnv 0 args) hs):AMem P f args hs r h':=by
 simp only[Bool.and_eq_true]at hr;obtain⟨⟨hr1,hr2⟩,hr3⟩:=hr;refine⟨⟨⟨fn,c,hf,hb,hname⟩,hr3⟩,fun g w vs hH hbn hl hrel=>?_⟩;have s0:=Sim.start (fn:=fn) hlen hH hbn hl hrel;refine calls_of_wp hf hb (wp_mono (hk g w g w _ s0 (Ext.refl _ _)) ?_);rintro ex a' w' ⟨g1,e1,h1,hk1,s1,hE1⟩
 have fin:(match resOf ty fn.results.toList fn.resultTypes.toList e1 h1 with|some v=>RetOK v r∧heapOK h1 h'|none=>False)→a'.defers=[]∧∃v,(results fn a'.tmps).run P w'=.ok v w'∧
  (∃v1 g',Ending.returned v=.returned v1∧VRel g' w' (domOf h') (some .ret) v1 r∧HRel g' w' h'∧(∀b ow,g'.own b=some ow→b<w'.heap.size)∧Ext g w g' w'):=by
  intro hq;refine⟨s1.defers,?_⟩;split at hq
  ·rename_i x hx
   obtain⟨hq,hheap⟩:=hq;obtain⟨v,hrun,t,hv⟩:=resOf_rel (P:=P) hty s1 hx
   have hv:VRel g1 w' (domOf h1) (some (.slot t)) v r:=by
    rcases hq with rfl|rfl
    ·exact hv
    ·exact hv.copy
   have hdom:∀l,memB (keysOf h') l=true→domOf h' l:=fun l hl=>by
    obtain⟨ob,hob⟩:=hget_of_key h' l (memB_mem _ _ hl);unfold domOf;rw[hob];rfl
   let g':Gh:={ pre:=g1.pre,own:=fun b=>retOwn h' t (g1.own b),ρ:=g1.ρ,σ:=g1.σ,sown:=g1.sown }
   have conv:∀{ow:Option Owner} {u:Value} {y:AV},(∀q,ow=some q→retOwn h' t (some q)=some q)→VRel g1 w' (domOf h1) ow u y→y.within (memB (keysOf h'))=true→VRel g' w' (domOf h') ow u y:=by
    intro ow u y hq r0 hin;have r1:=r0.within (dom':=domOf h') hdom hin;exact VRel.keep (g:=g1) (g':=g') (w:=w') (w':=w') (fun _ _ _ hv=>hv) (fun l hl=>⟨hl,rfl⟩) (fun l cs E _ hb=>⟨cs,E,hb,rfl⟩) (fun q b e1 ho=>⟨by show retOwn h' t (g1.own b)=some q;rw[ho];exact hq q e1,rfl,rfl⟩) r1
   refine⟨v,hrun,v,g',rfl,?_,⟨fun l ob hl=>?_,fun l ob hl hsl=>?_,fun l ob hl hsl=>?_⟩,fun b q hq=>?_,?_⟩
   ·cases r with
    |so sz xs=>
     cases hv with
     |full _ a _ _ hz hp=>exact .full _ a sz xs hz hp
     |own _ a cap _ _ cs E hz hp ho hpre hb' hs'=>exact .own .ret a cap sz xs cs E hz hp (by show retOwn h' t (g1.own a.block)=_;rw[ho];simp[retOwn]) hpre hb' hs'
    |_=>exact(conv (ow:=none) (fun _ q=>by cases q) (hv.anyOwner (fun _ _ q=>by cases q)) hr1).anyOwner (fun _ _ q=>by cases q)
   ·obtain⟨ob0,q1,q2⟩:=heapOK_get h' hheap l ob hl
    have hin:=objsIn_get h' hr2 l ob hl;have hkl:=hget_key _ _ _ hl
    cases (s1.heap.obj l ob0 q1).le q2 with
    |cells cs vs' E hb' hlen' hxx h1'=>exact .cells cs vs' E hb' hlen' (fun j u c q3 q4=>conv (fun q e1=>by cases e1;simp[retOwn,hkl]) (hxx j u c q3 q4) (withins_get _ cs (by simpa[AObj.within] using hin) j c q4)) h1'
    |arr xs vs' E hb' hlen' hxx h1'=>exact .arr xs vs' E hb' hlen' hxx h1'
    |map kd xs es clock hb' hxx hc=>exact .map kd xs es clock hb' hxx hc
    |gr st sz xs hg=>exact .gr st sz xs hg
    |dead=>exact .dead
    |bld T E2 bs2 hbl=>exact ORel.bldM hbl rfl rfl (fun bb hb2=>⟨by show retOwn h' t (g1.own bb)=_;rw[hb2];simp[retOwn,hkl],rfl,rfl⟩)
    |store T3 o3 sp3 nx3 z3 M3 hst=>exact .store T3 o3 sp3 nx3 z3 M3 (hst.mono (fun _ _ _ q=>q) (fun bb hb2=>⟨by show retOwn h' t (g1.own bb)=_;rw[hb2];simp[retOwn,hkl],rfl,rfl⟩) hst.sown)
    |glob gb gvs hgl=>exact ORel.globM hgl (fun h1 _ _=>⟨rfl,by show retOwn h' t (g1.own gb)=none;rw[h1];rfl⟩)
   ·obtain⟨ob0,q1,q2⟩:=heapOK_get h' hheap l ob hl
    show retOwn h' t (g1.own (g1.ρ l))=_;rw[s1.heap.own l ob0 q1 (q2.solid hsl)];simp[retOwn,hget_key _ _ _ hl]
   ·obtain⟨ob0,q1,q2⟩:=heapOK_get h' hheap l ob hl
    exact s1.heap.pre l ob0 q1 (q2.solid hsl)
   ·have hq:retOwn h' t (g1.own b)=some q:=hq
    cases hg:g1.own b with
    |none=>rw[hg]at hq;simp[retOwn]at hq
    |some q'=>exact s1.bnd b q' hg
   ·exact⟨hE1.size,hE1.os,hE1.out,hE1.imm,fun b hb hn=>⟨(hE1.kept b hb hn).1,(hE1.kept b hb hn).2.1,by show retOwn h' t (g1.own b)=none;rw[(hE1.kept b hb hn).2.2];rfl⟩,hE1.frz,hE1.frz',hE1.ρk,hE1.siz⟩
  ·exact hq.elim
 cases ex with
 |normal=>exact fin hk1
 |ret=>exact fin hk1
 |_=>exact hk1.elim
end
end Go.AM
end
section
namespace Go.AM
def APan (P:Program) (f:Nat) (args:List AV) (hs:Heap) (v:Value):Prop:=
 hasBody P f∧∀(g:Gh) (w:World) (vs:List Value),HRel g w hs→(∀b ow,g.own b=some ow→b<w.heap.size)→vs.length=args.length→(∀(j:Nat) (v:Value) (x:AV),vs[j]?=some v→args[j]?=some x→VRel g w (domOf hs) none v x)→
  Calls P f vs.toArray w fun en w'=>en=.panicked [{ v:=v,recovered:=false }]∧∃g',Ext g w g' w'
inductive pcallP (P:Program) (KP:List Nat→Value→Prop) (f:Nat) (args:List AV) (h:Heap):Prop
 |mem (R:List Nat) (hs:Heap) (v:Value) (h1:(AV.withins (memB R) args&&nodupB R)=true) (h2:subH h (toBig R 0) (memB R) R 0=some hs) (s:APan P f (AV.rens (toBig R 0) args) hs v) (hk:KP R v)
def callX (P:Program) (KP:List Nat→Value→Prop) (f:Nat) (args:List AV) (h:Heap) (K:List Nat→Heap→AV→Prop):Prop:=pcall P f args h K∨pcallP P KP f args h
def PanQ (v:Value) (g:Gh) (a:Act) (w:World):Exit→Act→World→Prop:=fun x a' w'=>x=.panic [{ v:=v,recovered:=false }]∧a'=a∧∃g',Ext g w g' w'
def OpPan (P:Program) (n:Nat) (o:Oper) (e:Env) (h:Heap) (rd:List Nat) (v:Value):Prop:=
 ∀e' h',(∀t∈slotsOf o,eget e' t=eget e t)→(∀l∈rd,hget h' l=hget h l)→
  ∀g w a,Sim g w n a e' h'→o.wp P a w (fun _ _=>False) (PanQ v g a w)
section
variable {P:Program} {ty:Nat→Option TI} {n:Nat}
theorem ext_lend {g g':Gh} {w w':World} {R:List Nat} (hE:Ext (g.lend R) w g' w'):∃G,Ext g w G w':=by
 refine⟨{ pre:=g'.pre,own:=g.own,ρ:=g.ρ,σ:=g'.σ,sown:=g.sown },hE.size,hE.os,hE.out,fun b o v hv=>?_,fun b hb ho=>?_,⟨hE.frz.1,rfl,fun s q k=>hE.frz.2.2 s (by show lendS R (g.sown s)=none;rw[q];rfl) k⟩,hE.frz',fun _ _=>rfl,hE.siz⟩
 ·have:=hE.imm b o v hv
  exact this
 ·have:=hE.kept b hb (by show lendOwn R (g.own b)=none;rw[ho];rfl)
  exact⟨this.1,this.2.1,ho⟩
theorem aCall_pan {o:Oper} {e:Env} {h:Heap} {az:List Operand} {ts:List Nat} {f:Nat} {first caps:List AV} (hx:IsCall P e o az ts f first caps) {KP:List Nat→Value→Prop}
 (hk:pcallP P KP f (first++argOf ty e az ts++caps) h):∃rd v,KP rd v∧OpPan P n o e h rd v:=by
 obtain⟨R,hs,v,ck1,hsub,⟨hb,hcall⟩,hk⟩:=hk;refine⟨R,v,hk,fun e' h' he hl g w a s=>?_⟩;simp only[Bool.and_eq_true]at ck1;obtain⟨ckw,ckn⟩:=ck1;have hn:=nodupB_spec ckn;have hsub':subH h' (toBig R 0) (memB R) R 0=some hs:=by rw[subH_congr R 0 hl];exact hsub
 obtain⟨cvs,hrun,k1,k2⟩:=hx.args hb s he
 have hargs:=hcall (g.lend R) w cvs (s.heap.lend hn hsub') (fun b q hq=>by
  have hq:lendOwn R (g.own b)=some q:=hq
  cases hg:g.own b with
  |none=>rw[hg]at hq;simp[lendOwn]at hq
  |some q'=>exact s.bnd b q' hg) (by rw[k1,rens_length]) (fun j v y q1 q2=>by
  rw[rens_get]at q2
  cases hq:(first++argOf ty e az ts++caps)[j]? with
  |none=>rw[hq]at q2;cases q2
  |some c0=>
   rw[hq,Option.map_some,Option.some.injEq]at q2;subst q2;have hr0:=k2 j v c0 q1 hq;exact VRel.lend hn hsub' (fun q e1=>by cases e1) hr0 (withins_get _ _ ckw j c0 hq))
 simp only[Oper.wp,hrun,Oper.upon];refine hargs.mono ?_;rintro en w' ⟨rfl,g',hE⟩;exact⟨rfl,rfl,ext_lend hE⟩
theorem aopX_sound (hty:TyOK P ty) {mv:Nat→Bool} {o:Oper} {e:Env} {h:Heap} {K:AK} {KP:List Nat→Value→Prop} (hd:∀d,o.dst=some d→d<n) (hst:∀t x y,o.op=.store t x y→o.dst=none) (hst2:∀t m k v,o.op=.mapUpdate t m k v∨o.op=.insert t m k v→o.dst=none) (hk:aop ty (callX P KP) mv o e h K):(∃f,K f∧OpOK P n o e h f)∨(∃rd v,KP rd v∧OpPan P n o e h rd v):=by
 unfold aop at hk;split at hk
 ·exact .inl (aopD_sound hty hd hst hst2 hk)
 unfold aopO at hk;split at hk
 ·rename_i t ho;exact .inl (aMove_sound hd (.inl ho) hk)
 ·rename_i x hx ho;exact .inl (operand_sound hd (.inl ho) (fun t q=>hx t q) hk)
 ·rename_i t ho;exact .inl (aMove_sound hd (.inr ho) hk)
 ·rename_i x hx ho;exact .inl (operand_sound hd (.inr ho) (fun t q=>hx t q) hk)
 ·rename_i c x y ho
  split at hk
  ·rename_i gd hc;exact .inl (aPick_sound hd ho hc hk)
  ·exact hk.elim
 ·rename_i t ho;exact .inl (aAlloc_sound hty hd ho hk)
 ·rename_i t x ho;exact .inl (aBox_sound hd ho hk)
 ·rename_i t parts ho;exact .inl (aBuild_sound hty hd ho hk)
 ·rename_i t len parts ho;exact .inl (aBuildSlice_sound hty hd ho hk)
 ·rename_i t x ho;exact .inl (aLoad_sound hty hd ho hk)
 ·rename_i t x y ho;exact .inl (aStore_sound hty ho (hst _ _ _ ho) hk)
 ·rename_i x ho;exact .inl (aNil_sound hd ho hk)
 ·rename_i op t x t' ho
  split at hk
  ·rename_i b hx;exact .inl (aIfc_sound hty hd hx hk ho)
  ·exact hk.elim
 ·rename_i op t x y t' _ ho;exact .inl (aBin_sound hty hd ho hk)
 ·rename_i op t x ho;exact .inl (aUn_sound hd ho hk)
 ·rename_i src dst x ho;exact .inl (aConv_sound hty hd ho hk)
 ·rename_i f first caps ho;exact .inl (aFunc_sound hd ho hk)
 ·rename_i t st lo ho
  split at hk
  ·rename_i sz xs hx;exact .inl (aSliceO_sound hty hd ho hx hk)
  ·rename_i l sz m hx;exact .inl (aSliceT_sound hty hd ho hx hk)
  ·exact .inl (aSlice_sound hty hd ho hk)
 ·rename_i t st u ho
  split at hk
  ·rename_i l sz m hx;exact .inl (aSliceA_sound hty hd ho hx hk)
  ·rename_i l hx;exact .inl (aSliceR_sound hty hd ho hx hk)
  ·exact .inl (aSlice_sound hty hd ho hk)
 ·rename_i t x lo hi _ _ ho;exact .inl (aSlice_sound hty hd ho hk)
 ·rename_i s x f ho;exact .inl (aFieldAddr_sound hty hd ho hk)
 ·rename_i t x f ho
  exact .inl (aField_sound hty hd ho hk)
 ·rename_i t x ix ho;exact .inl (aIndexAddr_sound hty hd ho hk)
 ·rename_i x m ho;exact .inl (aExtract_sound hd ho hk)
 ·rename_i x t ts ho;exact .inl (aLen_sound hty hd ho hk)
 ·rename_i x y t t2 ho;exact .inl (aAppend_sound hty hd ho hk)
 ·rename_i x y ts ho;exact .inl (aMin_sound hd ho hk)
 ·rename_i x y ts ho;exact .inl (aMax_sound hd ho hk)
 ·rename_i x y z ts ho;exact .inl (aMax3_sound hd ho hk)
 ·rename_i x t ts ho;exact .inl (aClear_sound hty ho hk)
 ·rename_i x az ts ho
  split at hk
  ·rename_i f first caps hx;rcases hk with hk|hk
   ·exact .inl (aCall_sound hd (.value x ho hx) hk)
   ·exact .inr (aCall_pan (.value x ho hx) hk)
  ·exact hk.elim
 ·rename_i x name az ts ho
  split at hk
  ·rename_i T y hx
   split at hk
   ·rename_i f hm;rcases hk with hk|hk
    ·exact .inl (aCall_sound hd (.invoke x name T y ho hx (methOf_spec hty hm) rfl rfl) hk)
    ·exact .inr (aCall_pan (.invoke x name T y ho hx (methOf_spec hty hm) rfl rfl) hk)
   ·exact hk.elim
  ·exact hk.elim
 ·rename_i t ho;exact .inl (aMakeMap_sound hty hd ho hk)
 ·rename_i t m k ok ho;exact .inl (aLookup_sound hty hd ho hk)
 ·rename_i t m k v ho;exact .inl (aMapUpdate_sound hty (.inl ho) (hst2 _ _ _ _ (.inl ho)) hk)
 ·rename_i t m k v ho;exact .inl (aMapUpdate_sound hty (.inr ho) (hst2 _ _ _ _ (.inr ho)) hk)
 ·rename_i t x y ho;exact .inl (aMakeSlice_sound hty hd ho hk)
 ·rename_i t x ix ho;exact .inl (aIndex_sound hty hd ho hk)
 ·exact hk.elim
def QOfP (n:Nat) (K:Exit→Env→Heap→Prop) (KP:Value→Prop) (g0:Gh) (w0:World):Exit→Act→World→Prop:=fun x a w=>match x with
 |.panic chain=>a.defers=[]∧∃v,chain=[{ v:=v,recovered:=false }]∧KP v∧∃g,Ext g0 w0 g w
 |x=>∃g e h,K x e h∧Sim g w n a e h∧Ext g0 w0 g w
theorem PanQ.q {K:Exit→Env→Heap→Prop} {KP:Value→Prop} {v:Value} {g0 g:Gh} {w0 w:World} {a0:Act} (hd:a0.defers=[]) (hk:KP v) (hE:Ext g0 w0 g w) {x:Exit} {a:Act} {w':World} (h:PanQ v g a0 w x a w'):QOfP n K KP g0 w0 x a w':=by
 obtain⟨rfl,rfl,g',hE'⟩:=h;exact⟨hd,v,rfl,hk,g',hE.trans hE'⟩
theorem Oper.wp_pan {o:Oper} {a:Act} {w:World} {K:Act→World→Prop} {Q Q':Exit→Act→World→Prop} (hh:o.wp P a w (fun _ _=>False) Q) (hq:∀x a w,Q x a w→Q' x a w):o.wp P a w K Q':=by
 unfold Oper.wp at *;generalize (execOp a.eval o).run P w=r at *;unfold Oper.upon at *;split at hh
 ·exact hh.elim
 ·exact hh.elim
 ·exact hh.elim
 ·refine hh.mono ?_
  rintro en w' hen
  cases en with
  |returned v=>exact hen.elim
  |panicked c=>exact hq _ _ _ hen
  |outgrown=>
   obtain⟨a',w'',h⟩:=hen;exact⟨a',w'',hq _ _ _ h⟩
 ·exact hh.mono (fun v w' h=>h.elim)
 ·exact hq _ _ _ hh
 ·exact hh.elim
theorem aopsP_sound (hty:TyOK P ty) {ops:Array Oper} (hok:ops.toList.all (okOp n)=true) {K:Exit→Env→Heap→Prop} {KP:Value→Prop} {g0:Gh} {w0:World}:∀(l:List Oper) (k:Nat) (e:Env) (h:Heap) (g:Gh) (w:World) (a:Act),
 (∀j,j<l.length→l[j]?=ops[k+j]?)→aops ty (callX P fun _ v=>KP v) ops.toList l e h (fun e h=>K .normal e h)→Sim g w n a e h→Ext g0 w0 g w→wpOps P ops (QOfP n K KP g0 w0) (List.range' k l.length) a w
 | [],k,e,h,g,w,a,_,hk,s,hE=>⟨g,e,h,hk,s,hE⟩
 |o::r,k,e,h,g,w,a,hl,hk,s,hE=>by
  have ho:ops[k]?=some o:=by have:=hl 0 (by simp);simpa using this.symm
  have hmem:o∈ops.toList:=by rw[←Array.getElem?_toList]at ho;exact List.mem_of_getElem? ho
  have hoko:okOp n o=true:=List.all_eq_true.1 hok o hmem;have hrest:∀j,j<r.length→r[j]?=ops[k+1+j]?:=fun j hj=>by have:=hl (j+1) (by simp;omega);rw[show k+1+j=k+(j+1) by omega,←this];simp
  simp only[List.length_cons,List.range'_succ];rw[wpOps_cons];simp only[wpOp,ho];rw[aops_cons]at hk;rcases guard_sound hk s with⟨hw,e1,hk,hee⟩|⟨hw,e1,hk,hee⟩
  ·rw[if_pos hw]
   left
   have s1:=s.envEq hee;rcases aopX_sound hty (okOp_dst hoko) (okOp_store hoko) (okOp_map hoko) hk with⟨f,hk,hop⟩|⟨rd,v,hkp,hop⟩
   ·simp only[pushE_iff,pushH_iff]at hk
    refine Oper.wp_monoQ (Oper.wp_mono ?_ (hop e1 h (fun _ _=>rfl) (fun _ _=>rfl) g w a s1));rintro a' w' ⟨g',s',hE'⟩;exact aopsP_sound hty hok r (k+1) _ _ g' w' a' hrest hk s' (hE.trans hE')
   ·exact Oper.wp_pan (hop e1 h (fun _ _=>rfl) (fun _ _=>rfl) g w a s1) (fun x a w h=>h.q s.defers hkp hE)
  ·rw[if_neg (by rw[hw];simp)]
   have s1:=s.envEq hee;unfold putT at hk;split at hk
   ·rename_i d hd
    rw[hd];exact aopsP_sound hty hok r (k+1) _ _ g w _ hrest hk (s1.put (okOp_dst hoko d hd) VRel.und0) hE
   ·rename_i hd
    rw[hd];exact aopsP_sound hty hok r (k+1) _ _ g w _ hrest hk s1 hE
end
end Go.AM
end
