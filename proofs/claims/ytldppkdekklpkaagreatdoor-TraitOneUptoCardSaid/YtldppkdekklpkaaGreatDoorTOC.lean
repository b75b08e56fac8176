/- Contracts, and the law, for every input. No conditions. -/
import Derived.Test.YtldppkdekklpkaaGreatDoorXR
import Derived.Test.YtldppkdekklpkaaGreatDoorXFj
import Derived.Test.YtldppkdekklpkaaGreatDoorAMPan
set_option linter.all false
section
open Go Go.AM Go.Proofs
open TR (LPg elPg elFu)
open TK (hmix)
open PA (hE vParse read_of)
set_option maxRecDepth 100000
namespace XE
theorem prog_of (ev:Value) (S:ByteArray) (pg:LPg) (h:AMem Tryz.prog 13 [.p (.s S)] (hE ev) (vParse (pg,0,0)) (hE ev)):AMem Tryz.prog 8 [.p (.s S)] (hE ev) (.p (elPg pg)) (hE ev):=by
 obtain⟨pn,pv,pu,pd,pt,pi',pf,pa⟩:=pg;unfold hE at h ⊢;refine AMem.intro (tyOf_ok Tryz.prog) hmix Tryz.func8 rfl (by rfl) (by kernel_rfl) (by show 1≤_;decide) rfl ?_;(conv=>whnf);refine amc [1000000000] 500 h ?_;(conv=>whnf);exact⟨.inl rfl,⟨rfl,rfl⟩,trivial⟩
theorem l_prog (ev:Value) (hev:ev=.nilIface∨∃te pe,ev=.iface te pe):AMem Tryz.prog 8 [.p (.s (B listsL))] (hE ev) (.p (elPg pgL)) (hE ev):=by
 refine prog_of ev _ _ ?_;have e:((B listsL).size:Int)=205:=by kernel_rfl
 rcases hev with rfl|⟨te,pe,rfl⟩
 ·exact read_of _ _ _ _ _ l_read (by rw[e];exact l_progn) l_right
 ·exact read_of _ _ _ _ _ l_read (by rw[e];exact l_progi te pe) l_right
theorem q_prog (ev:Value) (hev:ev=.nilIface∨∃te pe,ev=.iface te pe):AMem Tryz.prog 8 [.p (.s (B textQ))] (hE ev) (.p (elPg pgQ)) (hE ev):=by
 refine prog_of ev _ _ ?_;have e:((B textQ).size:Int)=36:=by kernel_rfl
 rcases hev with rfl|⟨te,pe,rfl⟩
 ·exact read_of _ _ _ _ _ q_read (by rw[e];exact q_progn) q_right
 ·exact read_of _ _ _ _ _ q_read (by rw[e];exact q_progi te pe) q_right
theorem letIn_of (ev:Value) (p q:LPg) (hp:p.funcs.length=1) (hq:q.funcs.length=1)
 (h1:AMem Tryz.prog 8 [.p (.s (B listsL))] (hE ev) (.p (elPg p)) (hE ev))
 (h2:AMem Tryz.prog 9 [.p (elPg p)] [] (.tup [.p (.i .i64 0),.p (.i .i64 0)]) [])
 (h3:AMem Tryz.prog 8 [.p (.s (B textQ))] (hE ev) (.p (elPg q)) (hE ev))
 (h4:AMem Tryz.prog 9 [.p (elPg q)] [] (.tup [.p (.i .i64 12),.p (.i .i64 34)]) []):
 AMem Tryz.prog 4 [] (hE ev) (.p (.b true)) (hE ev):=by
 obtain⟨pn,pv,pu,pd,pt,pi',pf,pa⟩:=p;obtain⟨qn,qv,qu,qd,qt,qi,qf,qa⟩:=q;simp only at hp hq;unfold hE at h1 h3 ⊢;refine AMem.intro (tyOf_ok Tryz.prog) hmix Tryz.func4 rfl (by rfl) (by kernel_rfl) (by show 0≤_;decide) rfl ?_;(conv=>whnf);refine amc [1000000000] 500 h1 ?_;(conv=>whnf);refine amc [] 1500 h2 ?_;(conv=>whnf);refine amc [1000000000] 2500 h3 ?_;(conv=>whnf);refine amc [] 3500 h4 ?_;(conv=>whnf);have e1:(((pf.map elFu).length:Int)==1)=true:=by simp[hp]
 have e2:(((qf.map elFu).length:Int)==1)=true:=by simp[hq]
 generalize (((pf.map elFu).length:Int)==1)=b1 at e1 ⊢;subst e1;(conv=>whnf);refine⟨.inl ?_,⟨rfl,rfl⟩,trivial⟩;show AV.p (PV.b (((qf.map elFu).length:Int)==1))=_;rw[e2]
theorem letIn_spec (ev:Value) (hev:ev=.nilIface∨∃te pe,ev=.iface te pe):AMem Tryz.prog 4 [] (hE ev) (.p (.b true)) (hE ev):=
 letIn_of ev pgL pgQ (by kernel_rfl) (by kernel_rfl) (l_prog ev hev) l_check (q_prog ev hev) q_check
end XE
end
section
open Go Go.AM Go.Proofs
set_option maxRecDepth 100000
namespace TR
namespace TO
theorem idxI_int (n h:ByteArray) (l:List LIm):(idxI n h l 0=(0,4))∨∃(J:Int) (y:LIm),idxI n h l 0=(J,0)∧0≤J∧J<(l.length:Int)∧l[J.toNat]?=some y∧y.tr=n∧y.fo=h:=by
 rcases idxI_get n h l 0 with q|⟨j,y,q1,q2,q3,q4⟩
 ·exact .inl q
 ·rw[Nat.zero_add]at q1
  exact .inr ⟨(j:Int),y,q1,by omega,by have:=(List.getElem?_eq_some_iff.1 q2).1;omega,by rw[Int.toNat_natCast];exact q2,q3,q4⟩
set_option maxHeartbeats 1000000 in
theorem law_of (ev:Value) (hlet:AMem Tryz.prog 4 [] (PA.hE ev) (.p (.b true)) (PA.hE ev)) (p:LPg) (hp:wlPg p≤1048576) (t:Ty):AMem Tryz.prog 3 [.p (elPg p),.p (eT t)] (PA.hE ev) (.p (.b true)) (PA.hE ev):=by
 have hpr:=program_spec p hp;have him:=fun n=>Impl_spec p hp n t;rw[wlPg_eq]at hp;have hil:=impls_len p.impls;have htl:=traits_len p.traits;have hfi:=fun n=>find_spec p (by omega) n;have hI:progF traitF fitsF p=0→∀(k:Nat) (y:LIm),p.impls[k]?=some y→∃t,findF p.traits y.tr=some t∧y.funcs.length=t.funcs.length:=fun h k y hy=>(impl_zero (prog_impl h hy)).2;have hO:progF traitF fitsF p=0→∀(i k:Nat) (x y:LIm),p.impls[k]?=some x→p.impls[i]?=some y→i≠k→¬((y.tr==x.tr)=true∧(y.fo==x.fo)=true):=fun h i k x y hx hy=>one_impl h hx hy;generalize progF traitF fitsF p=R at hpr hI hO;obtain⟨nm,ver,us,ds,ts,is,fs,acs⟩:=p;obtain⟨tk,tn,tx⟩:=t;simp only at *;unfold PA.hE at hlet ⊢;refine AMem.intro (tyOf_ok Tryz.prog) hmix Tryz.func3 rfl (by rfl) (by kernel_rfl) (by show 2≤_;decide) rfl ?_;(conv=>whnf);refine amc [1000000000] 500 hlet ?_;(conv=>whnf);refine apc hpr ?_;(conv=>whnf);refine asplit ?_ ?_<;>intro h0<;>conv=>whnf
 ·exact⟨.inl rfl,⟨rfl,rfl⟩,trivial⟩
 ·replace h0:(R != 0)=false:=h0
  have hR0:R=0:=by simpa[bne] using h0
  replace hI:=hI hR0;replace hO:=hO hR0
  refine loopS (tyOf_ok _) hmix (by kernel_rfl) ts.length [2,3,19,20,21] [2,3,1000000000] (fun k (_:Unit)=>[.ptr 2 0,.ptr 3 0,.p (.sl 2 (ts.map elTr)),.p (.i .i64 (ts.map elTr).length),.p (.i .i64 (ix k))])
   (fun _ _=>[.cells [.p (.s nm),.p (.i .i64 ver),.p (.sl 3 (us.map elUse)),.p (.sl 3 (ds.map elDt)),.p (.sl 2 (ts.map elTr)),.p (.sl 3 (is.map elIm)),.p (.sl 15 (fs.map elFu)),.p (.sl 14 (acs.map elAc))],.cells [.p (.i .i64 tk),.p (.s tn),.p (.sl 3 (eTs tx))],.glob 1 [ev]]) (fun _ _=>True) () ⟨rfl,rfl,rfl,rfl⟩ trivial ?_
  intro k _ hk _;(conv=>whnf);refine asplit ?_ ?_<;>intro h1<;>conv=>whnf
  ·have hk1:=ix_tt h1 (by simp) hk (by omega)
   obtain⟨b,hb⟩:∃b,ts[k]?=some b:=⟨ts[k],by simp[hk1]⟩
   have hc:=him b.name;have hf:=hfi b.name;have hget:=idxI_int b.name (headF (.mk tk tn tx)) is;generalize idxI b.name (headF (.mk tk tn tx)) is 0=q at hc hget;refine aidxk (x:=elTr b) (by rw[List.getElem?_map,hb];rfl) (by omega) ?_;obtain⟨bn,bfs⟩:=b;simp only at hc hf hget;(conv=>whnf);rcases hget with rfl|⟨J,y,rfl,hJ0,hJl,hy,hy1,hy2⟩
   ·refine apc hc ?_
    (conv=>whnf);exact⟨hk1,(),⟨rfl,rfl,rfl,rfl⟩,trivial⟩
   ·obtain⟨u,hu1,hu2⟩:=hI J.toNat y hy
    rw[hy1]at hu1;rw[hu1]at hf;simp only at hc hf;have hgy:(is.map elIm)[J.toNat]?=some (elIm y):=by rw[List.getElem?_map,hy];rfl
    refine apc hc ?_;(conv=>whnf);refine asplit ?_ ?_<;>intro h4<;>conv=>whnf
    ·exfalso;replace h4:decide (J<0)=true:=h4;have:=of_decide_eq_true h4;omega
    ·refine asplit ?_ ?_<;>intro h5<;>conv=>whnf
     ·exfalso;replace h5:decide (J≥((is.map elIm).length:Int))=true:=h5;have:=of_decide_eq_true h5;rw[List.length_map]at this;omega
     ·refine⟨elIm y,hJ0,hgy,?_⟩
      obtain⟨yt,yf,yfs⟩:=y;simp only at hy1 hy2 hu2;subst hy1;(conv=>whnf)
      first|refine aneed (.inl (by kernel_rfl)) ?_|refine aneed (by kernel_rfl) ?_
      (conv=>whnf);refine asplit ?_ ?_<;>intro h6<;>conv=>whnf
      ·exfalso
       replace h6:(!(yt.toList==yt.toList))=true:=h6;simp at h6
      ·refine loopS (tyOf_ok _) hmix (by kernel_rfl) is.length [2,3,6,7,19,20,21,56,57,58] [2,3,6,1000000000] (fun k2 (_:Unit)=>[.ptr 2 0,.ptr 3 0,.ptr 6 0,.p (.i .i64 J),.p (.sl 2 (ts.map elTr)),.p (.i .i64 (ts.map elTr).length),.p (.i .i64 (ix k)),.p (.sl 3 (is.map elIm)),.p (.i .i64 (is.map elIm).length),.p (.i .i64 (ix k2))])
        (fun _ _=>[.cells [.p (.s nm),.p (.i .i64 ver),.p (.sl 3 (us.map elUse)),.p (.sl 3 (ds.map elDt)),.p (.sl 2 (ts.map elTr)),.p (.sl 3 (is.map elIm)),.p (.sl 15 (fs.map elFu)),.p (.sl 14 (acs.map elAc))],.cells [.p (.i .i64 tk),.p (.s tn),.p (.sl 3 (eTs tx))],.cells [.p (.s yt),.p (.sl 15 (bfs.map elFu))],.glob 1 [ev]]) (fun _ _=>True) () ⟨rfl,rfl,rfl,rfl⟩ trivial ?_
       intro k2 _ hk2 _;(conv=>whnf);refine asplit ?_ ?_<;>intro h7<;>conv=>whnf
       ·have hk3:=ix_tt h7 (by simp) hk2 (by omega)
        obtain⟨m,hm⟩:∃b,is[k2]?=some b:=⟨is[k2],by simp[hk3]⟩
        have hno:=hO k2 J.toNat _ m hy hm;refine aidxk (x:=elIm m) (by rw[List.getElem?_map,hm];rfl) (by omega) ?_;obtain⟨mt,mf,mfs⟩:=m;simp only at hno;(conv=>whnf);refine asplit ?_ ?_<;>intro h8<;>conv=>whnf
        ·replace h8:(ix k2 != J)=true:=h8
         have hne:k2≠J.toNat:=by
          intro e;rw[ix_eq (by omega)]at h8;simp[bne]at h8;omega
         have hno:=hno hne;refine asplit ?_ ?_<;>intro h9<;>conv=>whnf
         ·rw[bl_iff]at h9
          refine⟨elIm ⟨yt,yf,yfs⟩,hJ0,hgy,?_⟩;(conv=>whnf)
          first|refine aneed (.inl (by kernel_rfl)) ?_|refine aneed (by kernel_rfl) ?_
          (conv=>whnf);refine asplit ?_ ?_<;>intro h10<;>conv=>whnf
          ·rw[bl_iff]at h10
           exact(hno ⟨h9,h10⟩).elim
          ·exact⟨hk3,(),⟨rfl,rfl,rfl,rfl⟩,trivial⟩
         ·first|refine aneed (.inl (by kernel_rfl)) ?_|refine aneed (by kernel_rfl) ?_
          (conv=>whnf);exact⟨hk3,(),⟨rfl,rfl,rfl,rfl⟩,trivial⟩
        ·first|refine aneed (.inl (by kernel_rfl)) ?_|refine aneed (by kernel_rfl) ?_
         (conv=>whnf);exact⟨hk3,(),⟨rfl,rfl,rfl,rfl⟩,trivial⟩
       ·obtain⟨un,ufs⟩:=u
        simp only at hu2;refine apc hf ?_;(conv=>whnf);refine⟨elIm ⟨yt,yf,yfs⟩,hJ0,hgy,?_⟩;(conv=>whnf)
        first|refine aneed (.inl (by kernel_rfl)) ?_|refine aneed (by kernel_rfl) ?_
        (conv=>whnf);refine asplit ?_ ?_<;>intro h11<;>conv=>whnf
        ·exfalso
         replace h11:(((yfs.map elFu).length:Int) != ((ufs.map elFu).length:Int))=true:=h11;rw[List.length_map,List.length_map,hu2]at h11;simp at h11
        ·exact⟨hk1,(),⟨rfl,rfl,rfl,rfl⟩,trivial⟩
  ·exact⟨.inl rfl,⟨rfl,rfl⟩,trivial⟩
theorem law_spec (ev:Value) (hev:ev=.nilIface∨∃te pe,ev=.iface te pe) (p:LPg) (hp:wlPg p≤1048576) (t:Ty):AMem Tryz.prog 3 [.p (elPg p),.p (eT t)] (PA.hE ev) (.p (.b true)) (PA.hE ev):=law_of ev (XE.letIn_spec ev hev) p hp t
end TO
end TR
end
