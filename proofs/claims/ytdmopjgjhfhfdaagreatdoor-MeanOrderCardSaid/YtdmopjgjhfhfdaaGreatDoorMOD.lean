/- Contracts, and the law, for every input. No conditions. -/
import Derived.Test.YtdmopjgjhfhfdaaGreatDoorMNQ
open Go Go.AM Go.Proofs TK
set_option maxRecDepth 100000
namespace MN
def hK (K:Ks):Heap:=[(1000000000,hNd K.n),(1000000001,hAr K.a),(1000000002,hBr K.b),(1000000003,hMk K.mm),(1000000004,hMc K.mc),(1000000005,hMf K.mf),(1000000006,hMt K.mt),(1000000007,hIm K.im),(1000000008,hMa K.ma)]
def kObj (K:Ks):List AObj:=[hNd K.n,hAr K.a,hBr K.b,hMk K.mm,hMc K.mc,hMf K.mf,hMt K.mt,hIm K.im,hMa K.ma]
noncomputable def tyNw:Nat→Option TI:=hint (hint (hint (hint (hint (hint (hintZ (tyOf Tryz.prog) 84 [0,1,1,1,0,1]) 84 [1000026]) 77 [1000021]) 78 [1000022,1000092]) 79 [1000023]) 80 [1000024]) 82 [1000117]
theorem tyNw_ok:TyOK Tryz.prog tyNw:=(((((((tyOf_ok Tryz.prog).hintZ _ _).hint _ _).hint _ _).hint _ _).hint _ _).hint _ _).hint _ _
set_option maxHeartbeats 8000000 in
theorem new_spec (K:Ks) (p:TR.LPg) (R:Ks) (hF:newF p K=some R):
 AMem Tryz.prog 14 [.p (TR.elPg p)] (hK K) (.p (.adr mS K.mm.1)) (hK R):=by
 unfold newF at hF
 cases hok:okPg p with
 |false=>rw[hok]at hF;cases hF
 |true=>
  rw[hok]at hF;dsimp only at hF;unfold okPg at hok;simp only[Bool.and_eq_true,List.all_eq_true]at hok;obtain⟨g1,g2,g3,g4,g5,g6,g7,g8⟩:=hok;have g1:=Nat.le_of_ble_eq_true g1;have g3:=Nat.le_of_ble_eq_true g3;have g5:=Nat.le_of_ble_eq_true g5;have g7:=Nat.le_of_ble_eq_true g7;have g8:=Nat.le_of_ble_eq_true g8;obtain⟨pn,pv,pu,pd,pt,pi',pf,pa⟩:=p;dsimp only at *
  cases hI:implsL pi' ⟨K.n,K.a,K.b⟩ (K.mf.1+1,(K.mf.1,[])::K.mf.2) K.im none with
  |none=>rw[hI]at hF;cases hF
  |some I=>
   rw[hI]at hF;obtain⟨z1,mf1,im1,qI⟩:=I;dsimp only at hF
   cases he0:tlk K.mf.1 mf1.2 with
   |none=>rw[he0]at hF;cases hF
   |some es0=>
    rw[he0]at hF;dsimp only at hF
    cases hfs:funsL pf z1 es0 with
    |none=>rw[hfs]at hF;cases hF
    |some P=>
     rw[hfs]at hF;obtain⟨z2,fs⟩:=P;dsimp only at hF
     cases hac:actorsL pa z2 [] with
     |none=>rw[hac]at hF;cases hF
     |some P2=>
      rw[hac]at hF;obtain⟨z3,acs⟩:=P2;cases hF;unfold TR.elPg hK;dsimp only;refine AMem.intro tyNw_ok hmix Tryz.func14 rfl (by rfl) (by kernel_rfl) (by show 1≤_;decide) rfl ?_;(conv=>whnf);refine loopS (tyOf_ok _) hmix (by kernel_rfl) pd.length [1,3,28,29,30] (1::iB) (fun j (_:TM Cn)=>[.ptr 1 0,.p (.adr mS K.mm.1),.p (.sl 3 (pd.map TR.elDt)),.p (.i .i64 (pd.map TR.elDt).length),.p (.i .i64 (ix j))]) (fun _ es=>.cells [.p (.s pn),.p (.i .i64 pv),.p (.sl 3 (pu.map TR.elUse)),.p (.sl 3 (pd.map TR.elDt)),.p (.sl 2 (pt.map TR.elTr)),.p (.sl 3 (pi'.map TR.elIm)),.p (.sl 15 (pf.map TR.elFu)),.p (.sl 14 (pa.map TR.elAc))]::kObj (kS K ⟨K.n,K.a,K.b⟩ (mk0 K none) es (K.mf.1+1,(K.mf.1,[])::K.mf.2) [] K.im [])) (fun j es=>datasL (pd.drop j) es=datasL pd []) [] ⟨rfl,rfl,rfl,rfl⟩ rfl ?_;intro j es hj hQ;(conv=>whnf);refine asplit ?_ ?_<;>intro h1<;>conv=>whnf
      ·have hj1:=ix_tt h1 (by rw[List.length_map]) hj (by omega)
       obtain⟨d,hd⟩:∃d,pd[j]?=some d:=⟨_,List.getElem?_eq_getElem hj1⟩
       have hdm:=Nat.le_of_ble_eq_true (g2 d (List.mem_of_getElem? hd));rw[drop_cons hd,datasL]at hQ;obtain⟨dn,dps,dms⟩:=d;refine aidxk (x:=.agg [.s dn,.sl 1 (dps.map TR.eStr),.sl 2 (dms.map TR.elMk)]) (by rw[List.getElem?_map,hd];rfl) (by omega) ?_;(conv=>whnf);refine loopS (tyOf_ok _) hmix (by kernel_rfl) dms.length [1,3,28,29,30,5,35,36,37] (1::5::iB) (fun i (_:TM Cn)=>[.ptr 1 0,.p (.adr mS K.mm.1),.p (.sl 3 (pd.map TR.elDt)),.p (.i .i64 (pd.map TR.elDt).length),.p (.i .i64 (ix j)),.ptr 5 0,.p (.sl 2 (dms.map TR.elMk)),.p (.i .i64 (dms.map TR.elMk).length),.p (.i .i64 (ix i))]) (fun _ es=>.cells [.p (.s pn),.p (.i .i64 pv),.p (.sl 3 (pu.map TR.elUse)),.p (.sl 3 (pd.map TR.elDt)),.p (.sl 2 (pt.map TR.elTr)),.p (.sl 3 (pi'.map TR.elIm)),.p (.sl 15 (pf.map TR.elFu)),.p (.sl 14 (pa.map TR.elAc))]::.cells [.p (.s dn),.p (.sl 1 (dps.map TR.eStr)),.p (.sl 2 (dms.map TR.elMk))]::kObj (kS K ⟨K.n,K.a,K.b⟩ (mk0 K none) es (K.mf.1+1,(K.mf.1,[])::K.mf.2) [] K.im [])) (fun i es2=>makesL dn (dms.drop i) es2=makesL dn dms es) es ⟨rfl,rfl,rfl,rfl⟩ rfl ?_;intro i es2 hi hQ2;(conv=>whnf);refine asplit ?_ ?_<;>intro h2<;>conv=>whnf
       ·have hi1:=ix_tt h2 (by rw[List.length_map]) hi (by dsimp only at hdm;omega)
        obtain⟨x,hx⟩:∃x,dms[i]?=some x:=⟨_,List.getElem?_eq_getElem hi1⟩
        rw[drop_cons hx,makesL]at hQ2;obtain⟨xn,xts⟩:=x;have hfi:=firstCn_spec cM (K.mc.1+1) K.mc.1 ((K.mc.1,es2)::K.mc.2) es2 xn ⟨dn,((TR.eTs xts).length:Int)⟩ (tlk_head _ _ _);rw[tset_head]at hfi;refine aidxk (x:=.agg [.s xn,.sl 3 (TR.eTs xts)]) (by rw[List.getElem?_map,hx];rfl) (by dsimp only at hdm;omega) ?_;(conv=>whnf);refine aneed ⟨rfl,by decide,.inl rfl⟩ ?_;refine⟨_,slk_in (enc:=eMk) (tlk_head K.mm.1 (mk0 K none) K.mm.2),?_⟩;refine aidxn (i:=0) rfl ?_;(conv=>whnf);refine amc [1000000004] 400 hfi ?_;(conv=>whnf);refine aneed (.inl (by kernel_rfl)) ?_;(conv=>whnf);exact⟨hi1,firstT es2 xn ⟨dn,((TR.eTs xts).length:Int)⟩,⟨rfl,rfl,rfl,rfl⟩,by rw[TR.eTs_len];exact hQ2⟩
       ·have h2:=ix_ff h2 (by rw[List.length_map]) hi (by dsimp only at hdm;omega)
        subst h2;rw[List.drop_length,makesL]at hQ2;exact⟨hj1,es2,⟨rfl,rfl,rfl,rfl⟩,by rw[hQ2];exact hQ⟩
      have h1:=ix_ff h1 (by rw[List.length_map]) hj (by omega);subst h1;rw[List.drop_length,datasL]at hQ;subst hQ;generalize datasL pd []=es1;refine loopS (tyOf_ok _) hmix (by kernel_rfl) pt.length [1,3,57,58,59] (1::iB) (fun j (_:TM ByteArray)=>[.ptr 1 0,.p (.adr mS K.mm.1),.p (.sl 2 (pt.map TR.elTr)),.p (.i .i64 (pt.map TR.elTr).length),.p (.i .i64 (ix j))]) (fun _ ts=>.cells [.p (.s pn),.p (.i .i64 pv),.p (.sl 3 (pu.map TR.elUse)),.p (.sl 3 (pd.map TR.elDt)),.p (.sl 2 (pt.map TR.elTr)),.p (.sl 3 (pi'.map TR.elIm)),.p (.sl 15 (pf.map TR.elFu)),.p (.sl 14 (pa.map TR.elAc))]::kObj (kS K ⟨K.n,K.a,K.b⟩ (mk0 K none) es1 (K.mf.1+1,(K.mf.1,[])::K.mf.2) ts K.im [])) (fun j ts=>traitsL (pt.drop j) ts=traitsL pt []) [] ⟨rfl,rfl,rfl,rfl⟩ rfl ?_;intro j ts hj hQ;(conv=>whnf);refine asplit ?_ ?_<;>intro h1<;>conv=>whnf
      ·have hj1:=ix_tt h1 (by rw[List.length_map]) hj (by omega)
       obtain⟨d,hd⟩:∃d,pt[j]?=some d:=⟨_,List.getElem?_eq_getElem hj1⟩
       have hdm:=Nat.le_of_ble_eq_true (g4 d (List.mem_of_getElem? hd));rw[drop_cons hd,traitsL]at hQ;obtain⟨dn,dfs⟩:=d;refine aidxk (x:=.agg [.s dn,.sl 15 (dfs.map TR.elFu)]) (by rw[List.getElem?_map,hd];rfl) (by omega) ?_;(conv=>whnf);refine loopS (tyOf_ok _) hmix (by kernel_rfl) dfs.length [1,3,57,58,59,9,64,65,66] (1::9::iB) (fun i (_:TM ByteArray)=>[.ptr 1 0,.p (.adr mS K.mm.1),.p (.sl 2 (pt.map TR.elTr)),.p (.i .i64 (pt.map TR.elTr).length),.p (.i .i64 (ix j)),.ptr 9 0,.p (.sl 15 (dfs.map TR.elFu)),.p (.i .i64 (dfs.map TR.elFu).length),.p (.i .i64 (ix i))]) (fun _ ts=>.cells [.p (.s pn),.p (.i .i64 pv),.p (.sl 3 (pu.map TR.elUse)),.p (.sl 3 (pd.map TR.elDt)),.p (.sl 2 (pt.map TR.elTr)),.p (.sl 3 (pi'.map TR.elIm)),.p (.sl 15 (pf.map TR.elFu)),.p (.sl 14 (pa.map TR.elAc))]::.cells [.p (.s dn),.p (.sl 15 (dfs.map TR.elFu))]::kObj (kS K ⟨K.n,K.a,K.b⟩ (mk0 K none) es1 (K.mf.1+1,(K.mf.1,[])::K.mf.2) ts K.im [])) (fun i ts2=>trFuns dn (dfs.drop i) ts2=trFuns dn dfs ts) ts ⟨rfl,rfl,rfl,rfl⟩ rfl ?_;intro i ts2 hi hQ2;(conv=>whnf);refine asplit ?_ ?_<;>intro h2<;>conv=>whnf
       ·have hi1:=ix_tt h2 (by rw[List.length_map]) hi (by dsimp only at hdm;omega)
        obtain⟨x,hx⟩:∃x,dfs[i]?=some x:=⟨_,List.getElem?_eq_getElem hi1⟩
        rw[drop_cons hx,trFuns]at hQ2;obtain⟨fnm,fps,fns',fts,⟨ftk,ftn,fta⟩,⟨xk,xn,xt,xns,xts,xxs,xms,xp⟩⟩:=x;have hfi:=firstTx_spec tM (K.mt.1+1) K.mt.1 ((K.mt.1,ts2)::K.mt.2) ts2 fnm dn (tlk_head _ _ _);rw[tset_head]at hfi;refine aidxk (x:=.agg [.s fnm,.sl 1 (fps.map TR.eStr),.sl 1 (fns'.map TR.eStr),.sl 3 (TR.eTs fts),.i .i64 ftk,.s ftn,.sl 3 (TR.eTs fta),.i .i64 xk,.i .i64 xn,.s xt,.sl 1 (xns.map TR.eStr),.sl 3 (TR.eTs xts),.sl 8 (TR.eEs xxs),.sl 12 (TR.eAs xms),.i .i64 xp]) (by rw[List.getElem?_map,hx];rfl) (by dsimp only at hdm;omega) ?_;(conv=>whnf);refine aneed ⟨rfl,by decide,.inl rfl⟩ ?_;refine⟨_,slk_in (enc:=eMk) (tlk_head K.mm.1 (mk0 K none) K.mm.2),?_⟩;refine aidxn (i:=0) rfl ?_;(conv=>whnf);refine amc [1000000006] 400 hfi ?_;(conv=>whnf);refine aneed (.inl (by kernel_rfl)) ?_;(conv=>whnf);exact⟨hi1,_,⟨rfl,rfl,rfl,rfl⟩,hQ2⟩
       ·have h2:=ix_ff h2 (by rw[List.length_map]) hi (by dsimp only at hdm;omega)
        subst h2;rw[List.drop_length,trFuns]at hQ2;exact⟨hj1,ts2,⟨rfl,rfl,rfl,rfl⟩,by rw[hQ2];exact hQ⟩
      have h1:=ix_ff h1 (by rw[List.length_map]) hj (by omega);subst h1;rw[List.drop_length,traitsL]at hQ;subst hQ;generalize traitsL pt []=ts1;refine loopS tyNw_ok hmix (by kernel_rfl) pi'.length [1,3,82,83,84] (1::iB) (fun j (_:Ns×Sto (TM Fn)×Sto (List Im)×Option (Nat×Nat))=>[.ptr 1 0,.p (.adr mS K.mm.1),.p (.sl 3 (pi'.map TR.elIm)),.p (.i .i64 (pi'.map TR.elIm).length),.p (.i .i64 (ix j))]) (fun _ y=>.cells [.p (.s pn),.p (.i .i64 pv),.p (.sl 3 (pu.map TR.elUse)),.p (.sl 3 (pd.map TR.elDt)),.p (.sl 2 (pt.map TR.elTr)),.p (.sl 3 (pi'.map TR.elIm)),.p (.sl 15 (pf.map TR.elFu)),.p (.sl 14 (pa.map TR.elAc))]::kObj (kS K y.1 (mk0 K y.2.2.2) es1 y.2.1 ts1 y.2.2.1 [])) (fun j y=>implsL (pi'.drop j) y.1 y.2.1 y.2.2.1 y.2.2.2=some (z1,mf1,im1,qI)) (⟨K.n,K.a,K.b⟩,(K.mf.1+1,(K.mf.1,[])::K.mf.2),K.im,none) ⟨rfl,rfl,rfl,rfl⟩ hI ?_;intro j y hj hQ;obtain⟨z,mf,im,q⟩:=y;dsimp only at hQ;(conv=>whnf);refine asplit ?_ ?_<;>intro h1<;>conv=>whnf
      ·have hj1:=ix_tt h1 (by rw[List.length_map]) hj (by omega)
       obtain⟨d,hd⟩:∃d,pi'[j]?=some d:=⟨_,List.getElem?_eq_getElem hj1⟩
       have hdm:=Nat.le_of_ble_eq_true (g6 d (List.mem_of_getElem? hd));rw[drop_cons hd,implsL]at hQ;obtain⟨dn,dfo,dfs⟩:=d;dsimp only at hQ hdm
       cases hfl:funsL dfs z [] with
       |none=>rw[hfl]at hQ;cases hQ
       |some P=>
        rw[hfl]at hQ;obtain⟨zz,ess⟩:=P;dsimp only at hQ
        cases hpb:pushB im q ⟨dn,dfo,mf.1⟩ with
        |none=>rw[hpb]at hQ;cases hQ
        |some B=>
         rw[hpb]at hQ;obtain⟨im2,q2⟩:=B;dsimp only at hQ;refine aidxk (x:=.agg [.s dn,.s dfo,.sl 15 (dfs.map TR.elFu)]) (by rw[List.getElem?_map,hd];rfl) (by omega) ?_;(conv=>whnf);refine loopS (tyOf_ok _) hmix (by kernel_rfl) dfs.length [1,3,82,83,84,14,95,96,97] (1::14::iB) (fun i (_:Ns×TM Fn)=>[.ptr 1 0,.p (.adr mS K.mm.1),.p (.sl 3 (pi'.map TR.elIm)),.p (.i .i64 (pi'.map TR.elIm).length),.p (.i .i64 (ix j)),.ptr 14 0,.p (.sl 15 (dfs.map TR.elFu)),.p (.i .i64 (dfs.map TR.elFu).length),.p (.i .i64 (ix i))]) (fun _ y=>.cells [.p (.s pn),.p (.i .i64 pv),.p (.sl 3 (pu.map TR.elUse)),.p (.sl 3 (pd.map TR.elDt)),.p (.sl 2 (pt.map TR.elTr)),.p (.sl 3 (pi'.map TR.elIm)),.p (.sl 15 (pf.map TR.elFu)),.p (.sl 14 (pa.map TR.elAc))]::.cells [.p (.s dn),.p (.s dfo),.p (.amp fM mf.1)]::kObj (kS K y.1 (mk0 K q) es1 (mf.1+1,(mf.1,y.2)::mf.2) ts1 im [])) (fun i y=>funsL (dfs.drop i) y.1 y.2=some (zz,ess)) (z,[]) ⟨rfl,rfl,rfl,rfl⟩ hfl ?_;intro i y hi hQ2;obtain⟨z',es'⟩:=y;dsimp only at hQ2;(conv=>whnf);refine asplit ?_ ?_<;>intro h2<;>conv=>whnf
         ·have hi1:=ix_tt h2 (by rw[List.length_map]) hi (by omega)
          obtain⟨x,hx⟩:∃x,dfs[i]?=some x:=⟨_,List.getElem?_eq_getElem hi1⟩
          rw[drop_cons hx,funsL]at hQ2
          cases hfg:funG x z' with
          |none=>rw[hfg]at hQ2;cases hQ2
          |some G=>
           rw[hfg]at hQ2;have hfs:=fun_spec K.mm.1 x z' G hfg;obtain⟨z4,fnv⟩:=G;dsimp only at hQ2 hfs;have hfi:=firstFn_spec fM (mf.1+1) mf.1 ((mf.1,es')::mf.2) es' x.name fnv (tlk_head _ _ _);rw[tset_head]at hfi;obtain⟨fv1,fv2⟩:=fnv;obtain⟨fnm,fps,fns',fts,⟨ftk,ftn,fta⟩,⟨xk,xn,xt,xns,xts,xxs,xms,xp⟩⟩:=x;unfold TR.elFu hN eFn at *;dsimp only at hfs hfi;rw[TR.eE,TR.eT]at hfs;refine aidxk (x:=.agg [.s fnm,.sl 1 (fps.map TR.eStr),.sl 1 (fns'.map TR.eStr),.sl 3 (TR.eTs fts),.i .i64 ftk,.s ftn,.sl 3 (TR.eTs fta),.i .i64 xk,.i .i64 xn,.s xt,.sl 1 (xns.map TR.eStr),.sl 3 (TR.eTs xts),.sl 8 (TR.eEs xxs),.sl 12 (TR.eAs xms),.i .i64 xp]) (by rw[List.getElem?_map,hx];rfl) (by omega) ?_;(conv=>whnf);refine amc [1000000000,1000000001,1000000002] 400 hfs ?_;(conv=>whnf);refine amc [1000000005] 400 hfi ?_;(conv=>whnf);refine aneed (.inl (by kernel_rfl)) ?_;(conv=>whnf);exact⟨hi1,(z4,firstT es' fnm ⟨fv1,fv2⟩),⟨rfl,rfl,rfl,rfl⟩,hQ2⟩
         ·have h2:=ix_ff h2 (by rw[List.length_map]) hi (by omega)
          subst h2;rw[List.drop_length,funsL]at hQ2;cases hQ2;(conv=>whnf);refine aneed ⟨rfl,by decide,.inl rfl⟩ ?_;refine⟨_,slk_in (enc:=eMk) (tlk_head K.mm.1 (mk0 K q) K.mm.2),?_⟩;refine aidxn (i:=0) rfl ?_;(conv=>whnf);have e1:=sset_head K.mm.1 (eMk (mk0 K q)) (eMk (mk0 K (some q2))) (enM eMk K.mm.2)
          cases q with
          |none=>
           have hB:=pushB_none hpb;cases hB;refine aneed ⟨Nat.succ_pos _,Nat.le_of_ble_eq_true (by kernel_rfl)⟩ ?_;(conv=>whnf);refine aneed ⟨rfl,by decide,.inl rfl⟩ ?_;refine⟨_,slk_in (enc:=eMk) (tlk_head K.mm.1 (mk0 K none) K.mm.2),?_⟩;refine aidxn (i:=0) rfl ?_;(conv=>whnf);refine aneed (.inl (by kernel_rfl)) ?_;(conv=>whnf);refine⟨hj1,(zz,(mf.1+1,(mf.1,ess)::mf.2),(im.1+1,(im.1,[⟨dn,dfo,mf.1⟩])::im.2),some (im.1,1)),⟨?_,rfl,rfl,rfl⟩,hQ⟩;show _=List.map some [AObj.cells _,_,_,_,.store 84 true mS (K.mm.1+1) 6 ((K.mm.1,eMk (mk0 K (some (im.1,1))))::enM eMk K.mm.2),_,_,_,_,_];rw[←e1];rfl
          |some p=>
           obtain⟨al,hal,hp1,hp2,hB⟩:=pushB_some hpb;cases hB;have e2:=map_push eIm im.1 p.1 p.2 al ⟨dn,dfo,mf.1⟩ im.2;refine⟨rfl,_,slk_in hal,?_⟩;refine aneed ⟨by unfold eIms;rw[List.length_map];exact hp1,Nat.le_trans (Nat.mul_le_mul_right _ (show p.2+1≤1000001 by omega)) (Nat.le_of_ble_eq_true (by kernel_rfl))⟩ ?_;(conv=>whnf);refine aneed ⟨rfl,by decide,.inl rfl⟩ ?_;refine⟨_,slk_in (enc:=eMk) (tlk_head K.mm.1 (mk0 K (some p)) K.mm.2),?_⟩;refine aidxn (i:=0) rfl ?_;(conv=>whnf);refine aneed (.inl (by kernel_rfl)) ?_;(conv=>whnf);refine⟨hj1,(zz,(mf.1+1,(mf.1,ess)::mf.2),(im.1+1,(im.1,al.take p.2++[⟨dn,dfo,mf.1⟩])::tdel p.1 im.2),some (im.1,p.2+1)),⟨?_,rfl,rfl,rfl⟩,hQ⟩;show _=List.map some [AObj.cells _,_,_,_,.store 84 true mS (K.mm.1+1) 6 ((K.mm.1,eMk (mk0 K (some (im.1,p.2+1))))::enM eMk K.mm.2),_,_,_,.store 108 false iS (im.1+1) 3 (enM eIms ((im.1,al.take p.2++[⟨dn,dfo,mf.1⟩])::tdel p.1 im.2)),_];rw[←e1,show enM eIms ((im.1,al.take p.2++[⟨dn,dfo,mf.1⟩])::tdel p.1 im.2)=_ from e2.symm];rfl
      have h1:=ix_ff h1 (by rw[List.length_map]) hj (by omega);subst h1;rw[List.drop_length,implsL]at hQ;cases hQ;refine loopS (tyOf_ok _) hmix (by kernel_rfl) pf.length [1,3,122,123,124] (1::iB) (fun j (_:Ns×TM Fn)=>[.ptr 1 0,.p (.adr mS K.mm.1),.p (.sl 15 (pf.map TR.elFu)),.p (.i .i64 (pf.map TR.elFu).length),.p (.i .i64 (ix j))]) (fun _ y=>.cells [.p (.s pn),.p (.i .i64 pv),.p (.sl 3 (pu.map TR.elUse)),.p (.sl 3 (pd.map TR.elDt)),.p (.sl 2 (pt.map TR.elTr)),.p (.sl 3 (pi'.map TR.elIm)),.p (.sl 15 (pf.map TR.elFu)),.p (.sl 14 (pa.map TR.elAc))]::kObj (kS K y.1 (mk0 K qI) es1 (mf1.1,tset K.mf.1 y.2 mf1.2) ts1 im1 [])) (fun j y=>funsL (pf.drop j) y.1 y.2=some (z2,fs)) (z1,es0) ⟨by dsimp only;rw[tlk_id he0];rfl,rfl,rfl,rfl⟩ hfs ?_;intro j y hj hQ;obtain⟨z',es'⟩:=y;dsimp only at hQ;(conv=>whnf);refine asplit ?_ ?_<;>intro h1<;>conv=>whnf
      ·have hj1:=ix_tt h1 (by rw[List.length_map]) hj (by omega)
       obtain⟨x,hx⟩:∃x,pf[j]?=some x:=⟨_,List.getElem?_eq_getElem hj1⟩
       rw[drop_cons hx,funsL]at hQ
       cases hfg:funG x z' with
       |none=>rw[hfg]at hQ;cases hQ
       |some G=>
        rw[hfg]at hQ;have hfsp:=fun_spec K.mm.1 x z' G hfg;obtain⟨z4,fnv⟩:=G;dsimp only at hQ hfsp;have hfi:=firstFn_spec fM mf1.1 K.mf.1 (tset K.mf.1 es' mf1.2) es' x.name fnv (tlk_tset he0);rw[tset_tset]at hfi;obtain⟨fv1,fv2⟩:=fnv;obtain⟨fnm,fps,fns',fts,⟨ftk,ftn,fta⟩,⟨xk,xn,xt,xns,xts,xxs,xms,xp⟩⟩:=x;unfold TR.elFu hN eFn at *;dsimp only at hfsp hfi;rw[TR.eE,TR.eT]at hfsp;refine aidxk (x:=.agg [.s fnm,.sl 1 (fps.map TR.eStr),.sl 1 (fns'.map TR.eStr),.sl 3 (TR.eTs fts),.i .i64 ftk,.s ftn,.sl 3 (TR.eTs fta),.i .i64 xk,.i .i64 xn,.s xt,.sl 1 (xns.map TR.eStr),.sl 3 (TR.eTs xts),.sl 8 (TR.eEs xxs),.sl 12 (TR.eAs xms),.i .i64 xp]) (by rw[List.getElem?_map,hx];rfl) (by omega) ?_;(conv=>whnf);refine aneed ⟨rfl,by decide,.inl rfl⟩ ?_;refine⟨_,slk_in (enc:=eMk) (tlk_head K.mm.1 (mk0 K qI) K.mm.2),?_⟩;refine aidxn (i:=0) rfl ?_;(conv=>whnf);refine amc [1000000000,1000000001,1000000002] 400 hfsp ?_;(conv=>whnf);refine amc [1000000005] 400 hfi ?_;(conv=>whnf);refine aneed (.inl (by kernel_rfl)) ?_;(conv=>whnf);exact⟨hj1,(z4,firstT es' fnm ⟨fv1,fv2⟩),⟨rfl,rfl,rfl,rfl⟩,hQ⟩
      have h1:=ix_ff h1 (by rw[List.length_map]) hj (by omega);subst h1;rw[List.drop_length,funsL]at hQ;cases hQ;refine loopS (tyOf_ok _) hmix (by kernel_rfl) pa.length [1,3,140,141,142] (1::iB) (fun j (_:Ns×TM Fn)=>[.ptr 1 0,.p (.adr mS K.mm.1),.p (.sl 14 (pa.map TR.elAc)),.p (.i .i64 (pa.map TR.elAc).length),.p (.i .i64 (ix j))]) (fun _ y=>.cells [.p (.s pn),.p (.i .i64 pv),.p (.sl 3 (pu.map TR.elUse)),.p (.sl 3 (pd.map TR.elDt)),.p (.sl 2 (pt.map TR.elTr)),.p (.sl 3 (pi'.map TR.elIm)),.p (.sl 15 (pf.map TR.elFu)),.p (.sl 14 (pa.map TR.elAc))]::kObj (kS K y.1 (mk0 K qI) es1 (mf1.1,tset K.mf.1 fs mf1.2) ts1 im1 y.2)) (fun j y=>actorsL (pa.drop j) y.1 y.2=some (z3,acs)) (z2,[]) ⟨rfl,rfl,rfl,rfl⟩ hac ?_;intro j y hj hQ;obtain⟨z',es'⟩:=y;dsimp only at hQ;(conv=>whnf);refine asplit ?_ ?_<;>intro h1<;>conv=>whnf
      ·have hj1:=ix_tt h1 (by rw[List.length_map]) hj (by omega)
       obtain⟨x,hx⟩:∃x,pa[j]?=some x:=⟨_,List.getElem?_eq_getElem hj1⟩
       rw[drop_cons hx,actorsL]at hQ
       cases hfg:acG x z' with
       |none=>rw[hfg]at hQ;cases hQ
       |some G=>
        rw[hfg]at hQ;unfold acG at hfg
        cases hb:Nat.ble x.ns.length 1000000 with
        |false=>rw[hb]at hfg;cases hfg
        |true=>
         rw[hb]at hfg;dsimp only at hfg
         cases hnn:nodeG 50 x.body z' with
         |none=>rw[hnn]at hfg;cases hfg
         |some N=>
          rw[hnn]at hfg;have c1:=TR.cloneM_spec x.ns (by have:=Nat.le_of_ble_eq_true hb;omega);have c2:=node_spec 50 K.mm.1 x.body z' N hnn;obtain⟨z4,nk⟩:=N;cases hfg;dsimp only at hQ c2;have hfi:=firstAc_spec aM (K.ma.1+1) K.ma.1 ((K.ma.1,es')::K.ma.2) es' x.name ⟨x.ns,nk⟩ (tlk_head _ _ _);rw[tset_head]at hfi;obtain⟨fnm,fns',fts,⟨ftk,ftn,fta⟩,⟨xk,xn,xt,xns,xts,xxs,xms,xp⟩⟩:=x;unfold hN eFn at *;dsimp only at c1 c2 hfi;rw[TR.eE]at c2;refine aidxk (x:=.agg [.s fnm,.sl 1 (fns'.map TR.eStr),.sl 3 (TR.eTs fts),.i .i64 ftk,.s ftn,.sl 3 (TR.eTs fta),.i .i64 xk,.i .i64 xn,.s xt,.sl 1 (xns.map TR.eStr),.sl 3 (TR.eTs xts),.sl 8 (TR.eEs xxs),.sl 12 (TR.eAs xms),.i .i64 xp]) (by rw[List.getElem?_map,hx];rfl) (by omega) ?_;(conv=>whnf);refine aneed ⟨rfl,by decide,.inl rfl⟩ ?_;refine⟨_,slk_in (enc:=eMk) (tlk_head K.mm.1 (mk0 K qI) K.mm.2),?_⟩;refine aidxn (i:=0) rfl ?_;(conv=>whnf);refine apc c1 ?_;(conv=>whnf);refine amc [1000000000,1000000001,1000000002] 400 c2 ?_;(conv=>whnf);refine amc [1000000008] 400 hfi ?_;(conv=>whnf);refine aneed (.inl (by kernel_rfl)) ?_;(conv=>whnf);exact⟨hj1,(z4,firstT es' fnm ⟨fns',nk⟩),⟨rfl,rfl,rfl,rfl⟩,hQ⟩
      have h1:=ix_ff h1 (by rw[List.length_map]) hj (by omega);subst h1;rw[List.drop_length,actorsL]at hQ;cases hQ;refine⟨.inl rfl,⟨s6,s6,s6,s6,s6,s6,s6,s6,s6,trivial⟩⟩
end MN
