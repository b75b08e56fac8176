/- Contracts, and the law, for every input. No conditions. -/
import Derived.Test.YtdmopjgjhfhfdaaGreatDoorMO3
open Go Go.AM Go.Proofs TK
set_option maxRecDepth 100000
namespace MN
def eVr (R:Option Vl):AV:=.tup [.p (eV (R.getD zV)),.p (.b R.isSome)]
theorem from_spec (m:Nat) (v:Ov) (R:Option Vl) (hF:fromF v=some R):APure Tryz.prog 51 [.p (eO v),.fn 38 [.p (.adr mS m)] []] (eVr R):=by
 obtain⟨k,n,t,l⟩:=v;unfold fromF at hF;dsimp only at hF;rw[eO];unfold eVr;generalize hl:PV.agg [.i .i64 k,.i .i64 n,.s t,.sl 4 (eOs l)]=px;subst hl;refine APure.intro (tyOf_ok Tryz.prog) hmix Tryz.func51 rfl (by rfl) (by kernel_rfl) (by show 2≤_;decide) rfl ?_;(conv=>whnf);refine asplit ?_ ?_<;>intro h1<;>conv=>whnf
 ·rw[show(k==1)=true from h1]at hF
  cases hF;have hk:k=1:=by simpa using h1
  subst hk;exact .inl rfl
 rw[show(k==1)=false from h1]at hF;dsimp only at hF;refine asplit ?_ ?_<;>intro h2<;>conv=>whnf
 ·rw[show(k==2)=true from h2,Bool.true_or]at hF
  cases hF;refine ast h2 ?_;(conv=>whnf);exact .inl rfl
 rw[show(k==2)=false from h2,Bool.false_or]at hF;refine asplit ?_ ?_<;>intro h6<;>conv=>whnf
 ·rw[show(k==6)=true from h6]at hF
  cases hF;exact .inl rfl
 rw[show(k==6)=false from h6]at hF;dsimp only at hF;refine asplit ?_ ?_<;>intro h3<;>conv=>whnf
 ·rw[show(k==3)=true from h3]at hF
  have hk:k=3:=by simpa using h3
  subst hk;dsimp only at hF;refine asplit ?_ ?_<;>intro g1<;>conv=>whnf
  ·refine asplit ?_ ?_<;>intro g2<;>conv=>whnf
   ·rw[show(n==0)=false by simpa using g1,show(n==1)=false by simpa using g2]at hF
    cases hF;exact .inl rfl
   ·rw[show(n==0)=false by simpa using g1,show(n==1)=true by simpa using g2]at hF
    cases hF;exact .inl rfl
  ·rw[show(n==0)=true by simpa using g1,Bool.true_or]at hF
   cases hF;exact .inl rfl
 rw[show(k==3)=false from h3]at hF;cases hF
def eVls (R:Option (List Vl)):AV:=.tup [.p (.sl 5 (eVs (R.getD []))),.p (.b R.isSome)]
theorem fromAll_spec (m:Nat) (l:List Ov) (R:Option (List Vl)) (hl:l.length≤1000000) (hF:fromAllF l=some R):APure Tryz.prog 37 [.p (.sl 4 (eOs l)),.fn 38 [.p (.adr mS m)] []] (eVls R):=by
 have hol:∀l:List Ov,eOs l=l.map eO:=by
  intro l
  induction l with
  |nil=>rfl
  |cons a r ih=>rw[eOs,ih];rfl
 have hlen:(eOs l).length=l.length:=by rw[hol];simp
 unfold eVls;refine APure.intro (tyOf_ok Tryz.prog) hmix Tryz.func37 rfl (by rfl) (by kernel_rfl) (by show 2≤_;decide) rfl ?_;(conv=>whnf);refine lp_nil 6 4 rfl ?_;refine loopS (tyOf_ok _) hmix (by kernel_rfl) l.length [1,6,11,12,13] [] (fun j (s:List Vl)=>[.fn 38 [.p (.adr mS m)] [],.so 5 (eVs s),.p (.sl 4 (eOs l)),.p (.i .i64 (eOs l).length),.p (.i .i64 (ix j))]) (fun _ _=>[]) (fun j s=>s.length≤j∧(match fromAllF (l.drop j) with|none=>none|some none=>some none|some (some q)=>some (some (s++q)))=some R) [] ⟨rfl,rfl,rfl,rfl⟩ ⟨by simp,by rw[List.drop_zero,hF];rcases R with _|R<;>rfl⟩ ?_;rintro j s hj ⟨hsl,hQ⟩;(conv=>whnf);refine asplit ?_ ?_<;>intro h1<;>conv=>whnf
 ·have hj1:=ix_tt h1 (by rw[hlen]) hj (by omega)
  obtain⟨a,ha⟩:∃a,l[j]?=some a:=⟨_,List.getElem?_eq_getElem hj1⟩
  rw[drop_cons ha,fromAllF]at hQ
  cases hf:fromF a with
  |none=>rw[hf]at hQ;cases hQ
  |some x=>
   rw[hf]at hQ;have hfs:=from_spec m a x hf;obtain⟨ak,an,at_,al⟩:=a;rw[eO]at hfs;refine aidxk (x:=.agg [.i .i64 ak,.i .i64 an,.s at_,.sl 4 (eOs al)]) (by rw[hol];simp[ha,eO]) (by omega) ?_;(conv=>whnf)
   cases x with
   |none=>
    cases hQ;unfold eVr at hfs;rw[show eV (Option.getD none zV)=eV zV from rfl]at hfs;unfold zV at hfs;rw[eV]at hfs;refine apc hfs ?_;(conv=>whnf);exact .inl rfl
   |some x=>
    obtain⟨xk,xn,xt,xa,xc⟩:=x;unfold eVr at hfs;rw[show eV (Option.getD (some (.mk xk xn xt xa xc)) zV)=eV (.mk xk xn xt xa xc) from rfl,eV]at hfs;refine apc hfs ?_;(conv=>whnf);have hel:(eVs s).length=s.length:=by rw[eVs_map];simp
    refine aneed (Nat.le_trans (Nat.mul_le_mul_right _ (show(eVs s).length+1≤1000001 by rw[hel];omega)) (Nat.le_of_ble_eq_true (by kernel_rfl))) ?_;(conv=>whnf);refine⟨hj1,s++[.mk xk xn xt xa xc],⟨rfl,?_,rfl,rfl⟩,by simp;omega,?_⟩
    ·rw[eVs_map (s++_),List.map_append,←eVs_map];rfl
    ·rw[←hQ]
     rcases fromAllF (l.drop (j+1)) with _|_|q
     ·rfl
     ·rfl
     ·simp
 ·have h1:=ix_ff h1 (by rw[hlen]) hj (by omega)
  subst h1;rw[List.drop_length]at hQ
  have:R=some s:=by
   rw[fromAllF]at hQ;simp at hQ;exact hQ.symm
  subst this;exact .inl rfl
end MN
open Go Go.AM Go.Proofs TK
set_option maxRecDepth 100000
namespace MN
def zFr:Fr:=⟨none,none,.nil,0,false⟩
def zOu:Ou:=⟨0,0,⟨#[]⟩,0,0,⟨#[]⟩,[],[]⟩
def newRn (m:Nat) (fn:Fn) (self:Int):Rn:=⟨m,fn.names,some fn.body,self,[],0,none,zFr,zV,zOu,zFr,none⟩
def makeF (K:Ks) (S:Ss) (m:Nat) (name:ByteArray) (st:List Ov) (self:Int):Option (Ss×Rn):=match tlk m K.mm.2 with
 |none=>none
 |some mk=>match tlk mk.actors K.ma.2 with
  |none=>none
  |some es=>match tfind name es with
   |none=>none
   |some fn=>match Nat.beq st.length fn.names.length&&(Nat.ble st.length 1000000&&Nat.ble fn.names.length 1000000) with
    |false=>none
    |true=>match fromAllF st with
     |none=>none
     |some none=>none
     |some (some l)=>match Nat.ble l.length 1000000 with
      |false=>none
      |true=>match anyLF S.c.2 l with
      |none=>none
      |some true=>none
      |some false=>match withF fn.names l (S.s,none) with
       |none=>none
       |some Q=>some ({ S with s:=Q.1 },beginR (newRn m fn self) l Q.2)
noncomputable def tyMk:Nat→Option TI:=hint (hintZ (tyOf Tryz.prog) 142 [1,1,1,1,5,1,0,1,1,0,1,1,1,1,1,5,1,1,1,1,1,1,1,4,4,1,1,0,1,1,1]) 142 [1000051]
theorem tyMk_ok:TyOK Tryz.prog tyMk:=((tyOf_ok Tryz.prog).hintZ _ _).hint _ _
theorem tlk_head {α:Type} (k:Nat) (x:α) (M:List (Nat×α)):tlk k ((k,x)::M)=some x:=by rw[tlk,Nat.beq_refl]
theorem tset_head {α:Type} (k:Nat) (x y:α) (M:List (Nat×α)):tset k y ((k,x)::M)=(k,y)::M:=by rw[tset,Nat.beq_refl]
theorem make_spec (K:Ks) (S:Ss) (zr:Sto Rn) (m:Nat) (name:ByteArray) (st:List Ov) (self:Int) (R:Ss×Rn) (hF:makeF K S m name st self=some R):
 AMem Tryz.prog 20 [.p (.adr mS m),.p (.s name),.p (.sl 4 (eOs st)),.p (.i .i64 self)] (hA K S zr) (.tup [.p (.ifv 132 (.adr rS zr.1)),.p (.i .i64 0)]) (hA K R.1 (zr.1+1,(zr.1,R.2)::zr.2)):=by
 have hol:∀l:List Ov,eOs l=l.map eO:=by
  intro l
  induction l with
  |nil=>rfl
  |cons a r ih=>rw[eOs,ih];rfl
 have hlen:(eOs st).length=st.length:=by rw[hol];simp
 unfold makeF at hF
 cases hm:tlk m K.mm.2 with
 |none=>rw[hm]at hF;cases hF
 |some mk=>
  rw[hm]at hF;dsimp only at hF
  cases hes:tlk mk.actors K.ma.2 with
  |none=>rw[hes]at hF;cases hF
  |some es=>
   rw[hes]at hF;dsimp only at hF
   cases hfn:tfind name es with
   |none=>rw[hfn]at hF;cases hF
   |some fn=>
    rw[hfn]at hF;dsimp only at hF
    cases hg:Nat.beq st.length fn.names.length&&(Nat.ble st.length 1000000&&Nat.ble fn.names.length 1000000) with
    |false=>rw[hg]at hF;cases hF
    |true=>
     rw[hg]at hF;dsimp only at hF;rw[Bool.and_eq_true,Bool.and_eq_true]at hg;have g1:=Nat.eq_of_beq_eq_true hg.1;have g2:=Nat.le_of_ble_eq_true hg.2.1;have g3:=Nat.le_of_ble_eq_true hg.2.2
     cases hfa:fromAllF st with
     |none=>rw[hfa]at hF;cases hF
     |some q=>
      rw[hfa]at hF
      cases q with
      |none=>cases hF
      |some l=>
       dsimp only at hF
       cases hll:Nat.ble l.length 1000000 with
       |false=>rw[hll]at hF;cases hF
       |true=>
        rw[hll]at hF;dsimp only at hF;have hll:=Nat.le_of_ble_eq_true hll
        cases hal:anyLF S.c.2 l with
        |none=>rw[hal]at hF;cases hF
        |some b=>
         rw[hal]at hF
         cases b with
         |true=>cases hF
         |false=>
          dsimp only at hF
          cases hw:withF fn.names l (S.s,none) with
          |none=>rw[hw]at hF;cases hF
          |some Q=>
           rw[hw]at hF;cases hF;have c1:=fromAll_spec m st (some l) g2 hfa;unfold eVls at c1;rw[show(some l).getD []=l from rfl]at c1;have c2:=anyLarge_spec S.c l false hll hal;have c3:=begin_spec (zr.1+1,(zr.1,newRn m fn self)::zr.2) S.s zr.1 l (newRn m fn self) Q (tlk_head _ _ _) g3 hw;rw[tset_head]at c3;obtain⟨m1,m2,m3,m4,m5,m6⟩:=mk;obtain⟨fnn,fb⟩:=fn;have hlk:=fun d=>tfind_look eFn name d es;rw[hfn]at hlk;dsimp only at *;unfold hA hMk hMa hRn at *;refine AMem.intro tyMk_ok hmix Tryz.func20 rfl (by rfl) (by kernel_rfl) (by show 4≤_;decide) rfl ?_;(conv=>whnf);refine lpe eMk hm rfl ?_;(conv=>whnf);refine aneed ⟨rfl,rfl⟩ ?_;refine⟨eTM eFn es,slk_in (enc:=eTM2 eFn) hes,?_⟩;refine⟨_,_,hlk _,?_⟩;(conv=>whnf);refine asf (by simp[hlen,g1]) ?_;(conv=>whnf);refine apc c1 ?_;(conv=>whnf);refine amc [1000000008] 300 c2 ?_;(conv=>whnf);refine amc [1000000000,1000000005] 300 c3 ?_;(conv=>whnf);refine⟨.inl rfl,⟨s6,s6,s6,s6,s6,s6,s6,s6,s6,s6,s6,s6,s6,s6,s6,s6,trivial⟩⟩
end MN
open Go Go.AM Go.Proofs TK
set_option maxRecDepth 100000
namespace MN
theorem offer_spec (K:Ks) (S:Ss) (zr:Sto Rn) (k:Nat) (r:Rn) (v:Ov) (R:Bool×Ss×Rn) (hr:tlk k zr.2=some r) (hF:offerF K S r v=some R):
 AMem Tryz.prog 227 [.p (.adr rS k),.p (eO v)] (hA K S zr) (.p (.b R.1)) (hA K R.2.1 (zr.1,tset k R.2.2 zr.2)):=by
 unfold offerF at hF
 cases hmd:r.mode==1 with
 |false=>
  rw[hmd]at hF;cases hF;dsimp only;rw[tlk_id hr];obtain⟨vk,vn,vt,va⟩:=v;obtain⟨r1,r2,r3,r4,r5,r6,r7,⟨c1,c2,c3,c4,c5⟩,⟨wk,wn,wt,wa,wc⟩,⟨o1,o2,o3,o4,o5,o6,o7,o8⟩,⟨p1,p2,p3,p4,p5⟩,r12⟩:=r;unfold hA hRn;rw[eO];refine AMem.intro (tyOf_ok Tryz.prog) hmix Tryz.func227 rfl (by rfl) (by kernel_rfl) (by show 2≤_;decide) rfl ?_;(conv=>whnf);refine lpe eRn hr rfl ?_;(conv=>whnf);refine ast (show(!(r6==1))=true by rw[hmd];rfl) ?_;(conv=>whnf);refine⟨.inl rfl,⟨s6,s6,s6,s6,s6,s6,s6,s6,s6,s6,s6,s6,s6,s6,s6,s6,trivial⟩⟩
 |true=>
  rw[hmd]at hF;dsimp only at hF
  cases hf:fromF v with
  |none=>rw[hf]at hF;cases hF
  |some x=>
   rw[hf]at hF;have cf:=from_spec r.maker v x hf;obtain⟨vk,vn,vt,va⟩:=v;rw[eO]at cf;unfold eVr at cf
   cases x with
   |none=>
    cases hF;rw[show eV (Option.getD none zV)=eV zV from rfl]at cf;unfold zV at cf;rw[eV]at cf;dsimp only;rw[tlk_id hr];obtain⟨r1,r2,r3,r4,r5,r6,r7,⟨c1,c2,c3,c4,c5⟩,⟨wk,wn,wt,wa,wc⟩,⟨o1,o2,o3,o4,o5,o6,o7,o8⟩,⟨p1,p2,p3,p4,p5⟩,r12⟩:=r;dsimp only at cf;unfold hA hRn;rw[eO];refine AMem.intro (tyOf_ok Tryz.prog) hmix Tryz.func227 rfl (by rfl) (by kernel_rfl) (by show 2≤_;decide) rfl ?_;(conv=>whnf);refine lpe eRn hr rfl ?_;(conv=>whnf);refine asf (show(!(r6==1))=false by rw[show(r6==1)=true from hmd];rfl) ?_;(conv=>whnf);refine lpe eRn hr rfl ?_;(conv=>whnf);refine apc cf ?_;(conv=>whnf);refine aneed (.inl (by kernel_rfl)) ?_;(conv=>whnf);refine aneed (.inl (by kernel_rfl)) ?_;(conv=>whnf);refine⟨.inl rfl,⟨s6,s6,s6,s6,s6,s6,s6,s6,s6,s6,s6,s6,s6,s6,s6,s6,trivial⟩⟩
   |some x=>
    dsimp only at hF
    cases ht:takeF K S r r.pause x with
    |none=>rw[ht]at hF;cases hF
    |some Q=>
     rw[ht]at hF;have tk:=take_spec K zr k r r.pause x hr S Q ht;obtain⟨xk,xn,xt,xa,xc⟩:=x;rw[show eV (Option.getD (some (.mk xk xn xt xa xc)) zV)=eV (.mk xk xn xt xa xc) from rfl,eV]at cf;rw[eV]at tk;obtain⟨b,S2,r2⟩:=Q
     cases b with
     |false=>
      have hrr:=takeF_r ht;cases hF;dsimp only at tk ⊢;rw[hrr,tlk_id hr];obtain⟨r1,r2,r3,r4,r5,r6,r7,⟨c1,c2,c3,c4,c5⟩,⟨wk,wn,wt,wa,wc⟩,⟨o1,o2,o3,o4,o5,o6,o7,o8⟩,⟨p1,p2,p3,p4,p5⟩,r12⟩:=r;dsimp only at cf tk;unfold hA hRn cFr at *;rw[eO];dsimp only at *;refine AMem.intro (tyOf_ok Tryz.prog) hmix Tryz.func227 rfl (by rfl) (by kernel_rfl) (by show 2≤_;decide) rfl ?_;(conv=>whnf);refine lpe eRn hr rfl ?_;(conv=>whnf);refine asf (show(!(r6==1))=false by rw[show(r6==1)=true from hmd];rfl) ?_;(conv=>whnf);refine lpe eRn hr rfl ?_;(conv=>whnf);refine apc cf ?_;(conv=>whnf);refine aneed (.inl (by kernel_rfl)) ?_;(conv=>whnf);refine lpe eRn hr rfl ?_;(conv=>whnf);refine amc iA 300 tk ?_;(conv=>whnf);refine aneed (.inl (by kernel_rfl)) ?_;(conv=>whnf);refine⟨.inl rfl,⟨s6,s6,s6,s6,s6,s6,s6,s6,s6,s6,s6,s6,s6,s6,s6,s6,trivial⟩⟩
     |true=>
      cases hF;dsimp only at tk ⊢;have hr2:tlk k (tset k r2 zr.2)=some r2:=tlk_tset hr;obtain⟨r1,r2',r3,r4,r5,r6,r7,⟨c1,c2,c3,c4,c5⟩,⟨wk,wn,wt,wa,wc⟩,⟨o1,o2,o3,o4,o5,o6,o7,o8⟩,⟨p1,p2,p3,p4,p5⟩,r12⟩:=r;obtain⟨b1,b2,b3,b4,b5,b6,b7,⟨d1,d2,d3,d4,d5⟩,⟨yk,yn,yt,ya,yc⟩,⟨l1,l2,l3,l4,l5,l6,l7,l8⟩,⟨e1,e2,e3,e4,e5⟩,b12⟩:=r2;dsimp only at cf tk;unfold hA hRn cFr at *;rw[eO];dsimp only at *;refine AMem.intro (tyOf_ok Tryz.prog) hmix Tryz.func227 rfl (by rfl) (by kernel_rfl) (by show 2≤_;decide) rfl ?_;(conv=>whnf);refine lpe eRn hr rfl ?_;(conv=>whnf);refine asf (show(!(r6==1))=false by rw[show(r6==1)=true from hmd];rfl) ?_;(conv=>whnf);refine lpe eRn hr rfl ?_;(conv=>whnf);refine apc cf ?_;(conv=>whnf);refine aneed (.inl (by kernel_rfl)) ?_;(conv=>whnf);refine lpe eRn hr rfl ?_;(conv=>whnf);refine amc iA 300 tk ?_;(conv=>whnf);refine aneed (.inl (by kernel_rfl)) ?_;(conv=>whnf);refine lpe eRn hr2 rfl ?_;(conv=>whnf);refine⟨.inl rfl,⟨⟨rfl,rfl,rfl,rfl,rfl,?_⟩,s6,s6,s6,s6,s6,s6,s6,s6,s6,s6,s6,s6,s6,s6,s6,trivial⟩⟩;exact(sset_en eRn k ⟨b1,b2,b3,b4,b5,0,b7,⟨d1,d2,d3,d4,d5⟩,.mk yk yn yt ya yc,⟨l1,l2,l3,l4,l5,l6,l7,l8⟩,⟨e1,e2,e3,e4,e5⟩,b12⟩ _).trans (by rw[tset_tset])
end MN
open Go Go.AM Go.Proofs TK
set_option maxRecDepth 100000
namespace MN
def eSt:Ov→PV
 |.mk k n t l=>.agg [.i .i64 0,.i .i64 k,.i .i64 n,.s t,.sl 4 (eOs l)]
def eSts (l:List Ov):List PV:=l.map eSt
def eOl (l:List Ou):List PV:=l.map fun o=>.agg (cOu o)
theorem eOl_snoc (l:List Ou) (o:Ou):eOl (l++[o])=eOl l++[.agg (cOu o)]:=by unfold eOl;simp
theorem played_spec (K:Ks) (S:Ss) (zr:Sto Rn) (m:Nat) (name:ByteArray) (st l:List Ov) (S1:Ss) (r1:Rn) (R:List Ou×Ss×Rn) (hmk:makeF K S m name st 7=some (S1,r1)) (hP:playG K 150 S1 r1 l []=some R):
 AMem Tryz.prog 13 [.p (.ifv 35 (.adr mS m)),.p (.s name),.p (.sl 4 (eOs st)),.p (.sl 1 []),.p (.sl 5 (eSts l))] (hA K S zr) (.tup [.p (.sl 8 (eOl R.1)),.p (.b true)]) (hA K R.2.1 (zr.1+1,(zr.1,R.2.2)::zr.2)):=by
 have hm:=make_spec K S zr m name st 7 _ hmk;dsimp only at hm;have hr0:tlk zr.1 ((zr.1,r1)::zr.2)=some r1:=tlk_head _ _ _;have hrt:∀r,tset zr.1 r ((zr.1,r1)::zr.2)=(zr.1,r)::zr.2:=fun r=>tset_head _ _ _ _;unfold hA at hm ⊢;refine AMem.intro (tyOf_ok Tryz.prog) hmix Tryz.func13 rfl (by rfl) (by kernel_rfl) (by show 5≤_;decide) rfl ?_;(conv=>whnf);refine amc iA 300 hm ?_;(conv=>whnf);refine lp_nil 14 7 rfl ?_;refine loopS (tyOf_ok _) hmix (by kernel_rfl) 150 [3,4,12,14,15,16,17] iA (fun j (z:Ss×Rn×List Ov×List Ou×Int)=>[.p (.sl 1 []),.p (.sl 5 (eSts z.2.2.1)),.p (.ifv 132 (.adr rS zr.1)),.so 8 (eOl z.2.2.2.1),.p (.i .i64 1000),.p (.i .i64 z.2.2.2.2),.p (.i .i64 (ix j))]) (fun j z=>hObj K z.1 (zr.1+1,(zr.1,z.2.1)::zr.2)) (fun j z=>(z.2.2.2.1.length≤j∧z.2.2.2.2=400*j)∧playG K (150-j) z.1 z.2.1 z.2.2.1 z.2.2.2.1=some R) (S1,r1,l,[],0) ⟨rfl,rfl,rfl,rfl⟩ ⟨⟨by simp,by simp⟩,hP⟩ ?_;intro j z hj hz;obtain⟨S2,r2,l2,o2,u⟩:=z;have hol:=(And.left hz).1;have hu:=(And.left hz).2;have hQ:=And.right hz;clear hz;dsimp only at hol hu hQ;(conv=>whnf);refine asplit ?_ ?_<;>intro h1<;>conv=>whnf
 rotate_left
 ·exfalso
  have h1:¬(u<60000):=of_decide_eq_false h1;have:150-j=0:=by omega
  rw[this]at hQ;cases hQ
 have h1:u<60000:=of_decide_eq_true h1;obtain⟨n,hn⟩:∃n,150-j=n+1:=⟨149-j,by omega⟩
 rw[hn,playG]at hQ;have hw:IntKind.i64.wrap (u+400)=400*((j+1:Nat):Int):=by rw[wrap64 (by omega) (by omega)];omega
 cases hrun:runF K 400 S2 r2 with
 |none=>rw[hrun]at hQ;cases hQ
 |some Q=>
  rw[hrun]at hQ;have hrs:=run_spec K S2 (zr.1+1,(zr.1,r2)::zr.2) zr.1 r2 400 Q (tlk_head _ _ _) (by decide) hrun;dsimp only at hrs;rw[tset_head]at hrs;obtain⟨⟨q1,q2,q3,q4,q5,q6,q7,q8⟩,S3,r3⟩:=Q;unfold hA cOu at hrs;dsimp only at hrs hQ;refine amc iA 300 hrs ?_;(conv=>whnf);generalize hu2:IntKind.i64.wrap (u+400)=u2 at hw ⊢;have hj1:j<150:=by omega
  have hn1:150-(j+1)=n:=by omega
  refine asplit ?_ ?_<;>intro k1<;>conv=>whnf
  ·rw[show(q1==1)=true from k1]at hQ
   exact⟨hj1,(S3,r3,l2,o2,u2),⟨rfl,rfl,rfl,rfl⟩,⟨⟨(by dsimp only;omega),by dsimp only;rw[hw]⟩,by dsimp only;rw[hn1];exact hQ⟩⟩
  rw[show(q1==1)=false from k1]at hQ;dsimp only at hQ;have hel:(eOl o2).length=o2.length:=by unfold eOl;simp
  refine aneed (Nat.le_trans (Nat.mul_le_mul_right _ (show(eOl o2).length+1≤1000001 by rw[hel];omega)) (Nat.le_of_ble_eq_true (by kernel_rfl))) ?_;(conv=>whnf);have hsn:=eOl_snoc o2 ⟨q1,q2,q3,q4,q5,q6,q7,q8⟩;have hsl:(o2++[(⟨q1,q2,q3,q4,q5,q6,q7,q8⟩:Ou)]).length≤j+1:=by simp;omega
  unfold cOu at hsn;dsimp only at hsn;refine asplit ?_ ?_<;>intro k8<;>conv=>whnf
  ·rw[show(q1==8)=true from k8]at hQ
   cases hQ;refine ast k8 ?_;(conv=>whnf);dsimp only;rw[hsn];refine⟨.inl rfl,⟨s6,s6,s6,s6,s6,s6,s6,s6,s6,s6,s6,s6,s6,s6,s6,s6,trivial⟩⟩
  rw[show(q1==8)=false from k8]at hQ;dsimp only at hQ;refine asplit ?_ ?_<;>intro k9<;>conv=>whnf
  ·rw[show(q1==9)=true from k9]at hQ
   cases hQ;dsimp only;rw[hsn];refine⟨.inl rfl,⟨s6,s6,s6,s6,s6,s6,s6,s6,s6,s6,s6,s6,s6,s6,s6,s6,trivial⟩⟩
  rw[show(q1==9)=false from k9]at hQ;dsimp only at hQ;refine asplit ?_ ?_<;>intro k4<;>conv=>whnf
  ·rw[show(q1==4)=true from k4]at hQ
   cases hQ
  rw[show(q1==4)=false from k4]at hQ;dsimp only at hQ;refine asplit ?_ ?_<;>intro k7<;>conv=>whnf
  rotate_left
  ·rw[show(q1==7)=false from k7]at hQ
   refine⟨hj1,(S3,r3,l2,o2++[(⟨q1,q2,q3,q4,q5,q6,q7,q8⟩:Ou)],u2),⟨rfl,?_,rfl,rfl⟩,⟨⟨hsl,by dsimp only;rw[hw]⟩,by dsimp only;rw[hn1];exact hQ⟩⟩;dsimp only;rw[hsn];rfl
  rw[show(q1==7)=true from k7]at hQ;dsimp only at hQ;generalize hO2:(o2++[(⟨q1,q2,q3,q4,q5,q6,q7,q8⟩:Ou)])=O2 at hQ hsn hsl
  cases hof:offersF K S3 r3 l2 with
  |none=>rw[hof]at hQ;cases hQ
  |some P=>
   rw[hof]at hQ;refine loopS (tyOf_ok _) hmix (by kernel_rfl) l2.length [3,4,12,14,15,16,17,20] iA (fun i (z:Ss×Rn×List Ov×Bool)=>[.p (.sl 1 []),.p (.sl 5 (eSts z.2.2.1)),.p (.ifv 132 (.adr rS zr.1)),.so 8 (eOl O2),.p (.i .i64 1000),.p (.i .i64 u2),.p (.i .i64 (ix j)),.p (.b z.2.2.2)]) (fun i z=>hObj K z.1 (zr.1+1,(zr.1,z.2.1)::zr.2)) (fun i z=>z.2.2.1.length+i=l2.length∧(match z.2.2.2 with|true=>P=(true,z.1,z.2.1,z.2.2.1)|false=>offersF K z.1 z.2.1 z.2.2.1=some P)) (S3,r3,l2,false) ⟨rfl,by dsimp only;rw[hsn];rfl,rfl,rfl⟩ ⟨by simp,hof⟩ ?_;intro i z hi hz;obtain⟨S4,r4,l4,b4⟩:=z;have hz1:=And.left hz;have hz2:=And.right hz;clear hz;dsimp only at hz1 hz2
   cases l4 with
   |nil=>
    conv=>whnf
    cases b4 with
    |true=>
     dsimp only at hz2;subst hz2;(conv=>whnf);refine⟨hj1,(S4,r4,[],O2,u2),⟨rfl,rfl,rfl,rfl⟩,⟨⟨hsl,by dsimp only;rw[hw]⟩,by dsimp only;rw[hn1];exact hQ⟩⟩
    |false=>
     rw[offersF]at hz2;cases hz2;cases hQ;(conv=>whnf);refine⟨.inl rfl,⟨s6,s6,s6,s6,s6,s6,s6,s6,s6,s6,s6,s6,s6,s6,s6,s6,trivial⟩⟩
   |cons v l4=>
    cases b4 with
    |true=>
     dsimp only at hz2;subst hz2;(conv=>whnf);refine ast (show decide (((eSts (v::l4)).length:Int)>0)=true from decide_eq_true (by simp[eSts])) ?_;(conv=>whnf);refine⟨hj1,(S4,r4,(v::l4),O2,u2),⟨rfl,rfl,rfl,rfl⟩,⟨⟨hsl,by dsimp only;rw[hw]⟩,by dsimp only;rw[hn1];exact hQ⟩⟩
    |false=>
     dsimp only at hz2;rw[offersF]at hz2
     cases hv:offerF K S4 r4 v with
     |none=>rw[hv]at hz2;cases hz2
     |some V=>
      rw[hv]at hz2;have hvs:=offer_spec K S4 (zr.1+1,(zr.1,r4)::zr.2) zr.1 r4 v V (tlk_head _ _ _) hv;dsimp only at hvs;rw[tset_head]at hvs;obtain⟨b,S5,r5⟩:=V;obtain⟨vk,vn,vt,va⟩:=v;rw[eO]at hvs;unfold hA at hvs;dsimp only at hvs;(conv=>whnf);refine ast (show decide (((eSts (.mk vk vn vt va::l4)).length:Int)>0)=true from decide_eq_true (by simp[eSts])) ?_;(conv=>whnf);refine aidxn (i:=0) (x:=.agg [.i .i64 0,.i .i64 vk,.i .i64 vn,.s vt,.sl 4 (eOs va)]) rfl ?_;(conv=>whnf);refine aneed ⟨by decide,by simp[eSts];omega,by simp⟩ ?_;(conv=>whnf);refine amc iA 300 hvs ?_;(conv=>whnf);refine⟨by rw[←hz1];simp,(S5,r5,l4,b),⟨rfl,?_,rfl,rfl⟩,⟨by dsimp only;rw[←hz1];simp;omega,?_⟩⟩
      ·have hds:List.drop (Int.toNat 1) (List.take ((eSts (.mk vk vn vt va::l4)).length:Int).toNat (eSts (.mk vk vn vt va::l4)))=eSts l4:=by rw[Int.toNat_natCast,List.take_length];rfl
       exact congrArg (fun q=>[AV.p (PV.sl 1 []),.p (.sl 5 q),.p (.ifv 132 (.adr rS zr.1)),.so 8 (eOl O2),.p (.i .i64 1000),.p (.i .i64 u2),.p (.i .i64 (ix j)),.p (.b b)]) hds
      ·skip
       dsimp only
       cases b with
       |true=>cases hz2;rfl
       |false=>exact hz2
end MN
