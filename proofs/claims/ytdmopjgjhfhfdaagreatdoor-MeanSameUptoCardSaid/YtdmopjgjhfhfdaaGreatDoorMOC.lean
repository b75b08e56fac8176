/- Contracts, and the law, for every input. No conditions. -/
import Derived.Test.YtdmopjgjhfhfdaaGreatDoorTR7
import Derived.Test.YtdmopjgjhfhfdaaGreatDoorMQ3
set_option linter.all false
section
open Go Go.AM Go.Proofs
set_option maxRecDepth 100000
namespace TR
theorem pE (l:List ByteArray) (h:l.length≤2097152):aU Tryz.prog 29 [.p (.sl 1 (l.map bD))] (.so 1 (l.map bD)):=by
 cases l with
 |nil=>
  refine aU.IK (pre:=[]) (post:=[]) (sz:=1) ?_ ?_
  ·refine aU.intro (ah Tryz.prog) az Tryz.func29 rfl (by rfl) (by kernel_rfl) (by show 1≤_;decide) rfl ?_
   (conv=>whnf);exact .inl rfl
  ·refine aU.intro (ah Tryz.prog) az Tryz.func29 rfl (by rfl) (by kernel_rfl) (by show 1≤_;decide) rfl ?_
   (conv=>whnf);refine ag (by decide) ?_;(conv=>whnf);exact .inl rfl
 |cons a r=>
  refine aU.intro (ah Tryz.prog) az Tryz.func29 rfl (by rfl) (by kernel_rfl) (by show 1≤_;decide) rfl ?_;(conv=>whnf);refine ag (show(([]:List PV).length+((a::r).map bD).length)*16≤140737488355328 by simp at h ⊢;omega) ?_;(conv=>whnf);exact .inl rfl
theorem CA (g:Pt→Pt) (f:Nat) (l:List Pt) (hl:l.length≤1048576) (h:∀x∈l,aU Tryz.prog f [.p (eP x)] (.p (eP (g x)))):aU Tryz.prog 77 [.p (.sl 4 (ov l)),.fn f [] []] (.p (.sl 4 (ov (l.map g)))):=by
 refine aU.intro (ah Tryz.prog) az Tryz.func77 rfl (by rfl) (by kernel_rfl) (by show 2≤_;decide) rfl ?_;(conv=>whnf);refine nM 5 3 rfl ?_;refine bK (ah _) az (by kernel_rfl) l.length [1,5,8,9,10] [] (fun k (s:List Pt)=>[.fn f [] [],.so 4 (ov s),.p (.sl 4 (ov l)),.p (.i .i64 (ov l).length),.p (.i .i64 (ix k))]) (fun _ _=>[]) (fun k s=>s=(l.take k).map g) [] ⟨rfl,rfl,rfl,rfl⟩ (by simp) ?_;intro k s hk hs;have hsl:s.length≤1048576:=by rw[hs];simp;omega
 (conv=>whnf);refine aj ?_ ?_<;>intro h1<;>conv=>whnf
 ·have hk1:=cj h1 (by rw[gP]) hk (by omega)
  obtain⟨b,hb1⟩:∃b,l[k]?=some b:=⟨_,List.getElem?_eq_getElem hk1⟩
  refine bM (tN hb1) (by omega) ?_;have hc:=h b (List.mem_of_getElem? hb1);have hts:(l.take (k+1)).map g=s++[g b]:=by rw[cJ hb1,List.map_append,hs];rfl
  generalize g b=c at hc hts;obtain⟨b1,b2,b3,b4⟩:=b;obtain⟨c1,c2,c3,c4⟩:=c;(conv=>whnf);refine iX hc ?_;(conv=>whnf);refine ag (show((ov s).length+1)*56≤140737488355328 by rw[gP];omega) ?_;(conv=>whnf);refine⟨hk1,_,⟨rfl,?_,rfl,rfl⟩,hts.symm⟩;rw[F6];rfl
 ·have hk1:=cm h1 (by rw[gP]) hk (by omega)
  have hs2:s=l.map g:=by rw[hs,hk1,List.take_length]
  subst hs2;exact .inr (.inl rfl)
theorem Hp (t:Pt):wP t≤1048576→aU Tryz.prog 47 [.p (eP t)] (.p (eP t)):=by
 induction t using Pt.ind with
 |h k0 n0 t0 as0 ih=>
 intro hw;have h1:=yu k0 n0 t0 as0;have h2:=GM as0;have hm:=CA (fun x=>x) 47 as0 (by omega) (fun x hx=>ih x hx (by have:=Gs hx;omega));rw[List.map_id']at hm;refine aU.intro (ah Tryz.prog) az Tryz.func47 rfl (by rfl) (by kernel_rfl) (by show 1≤_;decide) rfl ?_;(conv=>whnf);refine iX hm ?_;(conv=>whnf);exact .inl rfl
end TR
end
section
open Go Go.AM Go.Proofs TK
set_option maxRecDepth 100000
namespace MN
structure Mw where
 nx:Nat
 m:Nat
 c1:Nat
 c2:Nat
 c3:Nat
 qi:Option (Nat×Nat)
 c4:Nat
 rest:List (Nat×Mk)
def Mw.Oh (w:Mw) (fu:Option (Nat×Nat)):bf Mk:=(w.nx,(w.m,⟨fu,w.c1,w.c2,w.c3,w.qi,w.c4⟩)::w.rest)
def hN (w:Mw) (z:Ns):Heap:=[(1000000000,iE z.n),(1000000001,yX z.a),(1000000002,KK z.b),(1000000003,sj (w.Oh z.fu))]
noncomputable def PK:Nat→Option TI:=hint (hint (hint (gK (jJ Tryz.prog) 160 [1,1,1,1,0,0,1,1,1]) 160 [1000022]) 81 [1000071,1000052]) 158 [1000096]
theorem B0:bw Tryz.prog PK:=((((ah Tryz.prog).gK _ _).hint _ _).hint _ _).hint _ _
theorem map_push {α:Type} (g:α→PV) (nx g1 g2:Nat) (l:List α) (x:α) (M:List (Nat×List α)):(nx,(l.map g).take g2++[g x])::mC g1 (cy (fun l=>l.map g) M)=cy (fun l=>l.map g) ((nx,l.take g2++[x])::hU g1 M):=by
 rw[cy,tU];simp[List.map_take]
theorem oc {α:Type} {z:bf (List α)} {c:α} {R:bf (List α)×(Nat×Nat)} (h:mI z none c=some R):R=((z.1+1,(z.1,[c])::z.2),(z.1,1)):=by cases h;rfl
theorem nq {α:Type} {z:bf (List α)} {q:Nat×Nat} {c:α} {R:bf (List α)×(Nat×Nat)} (h:mI z (some q) c=some R):∃l,aJ q.1 z.2=some l∧q.2≤l.length∧q.2≤2000000∧R=((z.1+1,(z.1,l.take q.2++[c])::hU q.1 z.2),(z.1,q.2+1)):=by
 unfold mI at h;dsimp only at h
 cases hl:aJ q.1 z.2 with
 |none=>rw[hl]at h;cases h
 |some l=>
  rw[hl]at h;dsimp only at h
  cases hg:Nat.ble q.2 l.length&&Nat.ble q.2 2000000 with
  |false=>rw[hg]at h;cases h
  |true=>
   rw[hg]at h;rw[Bool.and_eq_true]at hg;cases h;exact⟨l,rfl,Nat.le_of_ble_eq_true hg.1,Nat.le_of_ble_eq_true hg.2,rfl⟩
theorem uw:∀(n:Nat) (w:Mw) (e:TR.Ex) (z:Ns) (R:Ns×Nat),iG n e z=some R→
 av Tryz.prog 30 [.p (.bG mS w.m),.p (TR.eE e)] (hN w z) (.p (.bG nS R.2)) (hN w R.1)
 |0,_,_,_,_,hF=>by cases hF
 |n+1,w,e,z,R,hF=>by
  have ih:=uw n w;unfold iG at hF
  cases hg:Nat.ble e.args.length 2000000&&(Nat.ble e.dR.length 2000000&&Nat.ble e.names.length 2000000) with
  |false=>rw[hg]at hF;cases hF
  |true=>
   rw[hg]at hF;dsimp only at hF;rw[Bool.and_eq_true,Bool.and_eq_true]at hg;have g1:=Nat.le_of_ble_eq_true hg.1;have g2:=Nat.le_of_ble_eq_true hg.2.1;have g3:=Nat.le_of_ble_eq_true hg.2.2
   cases hfu:Kz e z.n.1 ⟨(z.n.1+1,(z.n.1,tw e)::z.n.2),z.a,z.b,z.fu⟩ with
   |none=>rw[hfu]at hF;cases hF
   |some z1=>
   rw[hfu]at hF;dsimp only at hF
   cases ha:qC (iG n) z.n.1 e.args z1 with
   |none=>rw[ha]at hF;cases hF
   |some z2=>
    rw[ha]at hF;dsimp only at hF
    cases hm:qU (iG n) z.n.1 e.dR z2 with
    |none=>rw[hm]at hF;cases hF
    |some z3=>
     rw[hm]at hF;cases hF;have hcl:=TR.pE e.names (by omega);have hnd:=TR.yA e;have hfr:=TR.free_spec e;have hfe:=fun fn fr=>(rfl:({ tw e with fn:=fn,free:=fr }:Nd)=⟨e.kind,e.num,e.text,e.names,none,none,TR.dX e.kind e.num e.args.length,fn,fr⟩)
     unfold Kz at hfu;obtain⟨ek,en,et,ens,ets,exs,ems,ep⟩:=e;obtain⟨nx,m,c1,c2,c3,qi,c4,rest⟩:=w;unfold tw at hfu;simp only[TR.Ex.kind,TR.Ex.num,TR.Ex.text,TR.Ex.names,TR.Ex.args,TR.Ex.dR]at ha hm hcl hnd hfu g1 g2 g3;rw[TR.eE]at hnd hfr ⊢;unfold hN iE yX KK sj Mw.Oh at *;dsimp only at *;have hlx:(TR.dZ exs).length=exs.length:=TR.cA exs;have hlm:(TR.jz ems).length=ems.length:=TR.iT ems;have hm0:∀fu,aJ m ((m,(⟨fu,c1,c2,c3,qi,c4⟩:Mk))::rest)=some ⟨fu,c1,c2,c3,qi,c4⟩:=fun fu=>aP _ _ _;refine av.pU B0 Tryz.func30 rfl (by rfl) (by show 2≤_;decide) rfl ?_;refine iW.cut B0 az (by kernel_rfl) 3 [0,3,5] [3,1000000000,1000000001,1000000002,1000000003] (fun _:Unit=>[.p (.bG mS m),.ptr 3 0,.p (.bG nS z.n.1)]) (fun _=>[.cells [.p (.i .i64 ek),.p (.i .i64 en),.p (.s et),.p (.sl 1 (ens.map TR.bD)),.p (.sl 3 (TR.lG ets)),.p (.sl 8 (TR.dZ exs)),.p (.sl 12 (TR.jz ems)),.p (.i .i64 ep)],.store 160 true nS z1.n.1 9 (cy cY z1.n.2),.store 110 false aS z1.a.1 1 (cy qF z1.a.2),.store 169 false bS z1.b.1 5 (cy EX z1.b.2),.store 84 true mS nx 6 (cy iU ((m,⟨z1.fu,c1,c2,c3,qi,c4⟩)::rest))]) (fun _=>True) ?_ ?_
     ·conv=>whnf
      refine iX hcl ?_;(conv=>whnf);refine iX hnd ?_;(conv=>whnf);refine ag (.inl (by kernel_rfl)) ?_;(conv=>whnf);refine aj ?_ ?_<;>intro k1<;>conv=>whnf
      rotate_left
      ·rw[show(ek==10)=false from k1,Bool.false_and]at hfu
       cases hfu;exact⟨(),⟨rfl,rfl,rfl,rfl⟩,trivial⟩
      rw[show(ek==10)=true from k1,Bool.true_and]at hfu
      have hkz:decide (((TR.dZ exs).length:Int)>0)=!(Nat.beq exs.length 0):=by
       rw[hlx]
       cases exs.length with
       |zero=>rfl
       |succ n=>exact decide_eq_true (by omega)
      refine aj ?_ ?_<;>intro k2<;>conv=>whnf
      rotate_left
      ·rw[←hkz,show decide (((TR.dZ exs).length:Int)>0)=false from k2]at hfu
       cases hfu;exact⟨(),⟨rfl,rfl,rfl,rfl⟩,trivial⟩
      rw[←hkz,show decide (((TR.dZ exs).length:Int)>0)=true from k2]at hfu;dsimp only at hfu
      cases hwe:Nat.ble (TR.wE (.mk ek en et ens ets exs ems ep)) 1048640 with
      |false=>rw[hwe]at hfu;cases hfu
      |true=>
       rw[hwe]at hfu;have hfr:=hfr (Nat.le_of_ble_eq_true hwe);dsimp only at hfu;generalize TR.mJ (.mk ek en et ens ets exs ems ep)=fr at hfu hfr
       cases hpb:mI z.a z.fu z.n.1 with
       |none=>rw[hpb]at hfu;cases hfu
       |some B=>
        rw[hpb]at hfu;obtain⟨B1,B2⟩:=B;cases hfu;have hn0:rQ z.n.1 ((z.n.1,cY ⟨ek,en,et,ens,none,none,TR.dX ek en exs.length,0,[]⟩)::cy cY z.n.2)=some (cY ⟨ek,en,et,ens,none,none,TR.dX ek en exs.length,0,[]⟩):=sn _ _ _;have e1:=qh z.n.1 (cY ⟨ek,en,et,ens,none,none,TR.dX ek en exs.length,0,[]⟩) (cY ⟨ek,en,et,ens,none,none,TR.dX ek en exs.length,(gx z.fu:Int),fr⟩) (cy cY z.n.2);have e3:=qh m (iU ⟨z.fu,c1,c2,c3,qi,c4⟩) (iU ⟨some B2,c1,c2,c3,qi,c4⟩) (cy iU rest);rw[dG];generalize hzf:z.fu=zf at *
        cases zf with
        |none=>
         have hB:=oc hpb;cases hB;refine ag ⟨rfl,by decide,.inl rfl⟩ ?_;refine⟨_,aq (hm0 none),?_⟩;refine au (i:=0) rfl ?_;(conv=>whnf);refine bg [] 300 hfr ?_;(conv=>whnf);refine ag ⟨rfl,by decide,.inl rfl⟩ ?_;refine⟨_,hn0,?_⟩;refine au (i:=0) rfl ?_;(conv=>whnf);refine ag ⟨rfl,by decide,.inl rfl⟩ ?_;refine⟨_,(aI hn0),?_⟩;refine au (i:=0) rfl ?_;(conv=>whnf);refine ag (.inl (by kernel_rfl)) ?_;(conv=>whnf);refine ag ⟨rfl,by decide,.inl rfl⟩ ?_;refine⟨_,aq (hm0 none),?_⟩;refine au (i:=0) rfl ?_;(conv=>whnf);refine ag ⟨Nat.succ_pos _,Nat.le_of_ble_eq_true (by kernel_rfl)⟩ ?_;(conv=>whnf);refine ag ⟨rfl,by decide,.inl rfl⟩ ?_;refine⟨_,aq (hm0 none),?_⟩;refine au (i:=0) rfl ?_;(conv=>whnf);refine⟨(),⟨?_,rfl,rfl,rfl⟩,trivial⟩;show _=List.map some [bq.cells _,.store 160 true nS (z.n.1+1) 9 ((z.n.1,cY ⟨ek,en,et,ens,none,none,TR.dX ek en exs.length,(gx none:Int),fr⟩)::cy cY z.n.2),.store 110 false aS (z.a.1+1) 1 (cy qF ((z.a.1,[z.n.1])::z.a.2)),_,.store 84 true mS nx 6 ((m,iU ⟨some (z.a.1,1),c1,c2,c3,qi,c4⟩)::cy iU rest)];rw[←e1,←e3,show(1:Nat)=1 from rfl];rw[←bU z.n.1 _ _ ((z.n.1,cY _)::cy cY z.n.2)];rfl
        |some p=>
         obtain⟨al,hal,hp1,hp2,hB⟩:=nq hpb;cases hB;have e2:=map_push (PV.bG nS) z.a.1 p.1 p.2 al z.n.1 z.a.2;refine ag ⟨rfl,by decide,.inl rfl⟩ ?_;refine⟨_,aq (hm0 (some p)),?_⟩;refine au (i:=0) rfl ?_;(conv=>whnf);refine bg [] 300 hfr ?_;(conv=>whnf);refine ag ⟨rfl,by decide,.inl rfl⟩ ?_;refine⟨_,hn0,?_⟩;refine au (i:=0) rfl ?_;(conv=>whnf);refine ag ⟨rfl,by decide,.inl rfl⟩ ?_;refine⟨_,(aI hn0),?_⟩;refine au (i:=0) rfl ?_;(conv=>whnf);refine ag (.inl (by kernel_rfl)) ?_;(conv=>whnf);refine ag ⟨rfl,by decide,.inl rfl⟩ ?_;refine⟨_,aq (hm0 (some p)),?_⟩;refine au (i:=0) rfl ?_;(conv=>whnf);refine⟨rfl,_,aq hal,?_⟩;refine ag ⟨by unfold qF;rw[List.length_map];exact hp1,Nat.le_trans (Nat.mul_le_mul_right _ (show p.2+1≤2000001 by omega)) (Nat.le_of_ble_eq_true (by kernel_rfl))⟩ ?_;(conv=>whnf);refine ag ⟨rfl,by decide,.inl rfl⟩ ?_;refine⟨_,aq (hm0 (some p)),?_⟩;refine au (i:=0) rfl ?_;(conv=>whnf);refine⟨(),⟨?_,rfl,rfl,rfl⟩,trivial⟩;show _=List.map some [bq.cells _,.store 160 true nS (z.n.1+1) 9 ((z.n.1,cY ⟨ek,en,et,ens,none,none,TR.dX ek en exs.length,(gx (some p):Int),fr⟩)::cy cY z.n.2),.store 110 false aS (z.a.1+1) 1 (cy qF ((z.a.1,al.take p.2++[z.n.1])::hU p.1 z.a.2)),_,.store 84 true mS nx 6 ((m,iU ⟨some (z.a.1,p.2+1),c1,c2,c3,qi,c4⟩)::cy iU rest)];rw[←e1,←e3,show cy qF ((z.a.1,al.take p.2++[z.n.1])::hU p.1 z.a.2)=_ from e2.symm];rw[←bU z.n.1 _ _ ((z.n.1,cY _)::cy cY z.n.2)];rfl
     rintro _ _;refine iW.fin B0 az (by kernel_rfl) ?_;(conv=>whnf);refine bK (ah _) az (by kernel_rfl) exs.length [0,3,5,56,57,58] [3,1000000000,1000000001,1000000002,1000000003] (fun j (_:Ns)=>[.p (.bG mS m),.ptr 3 0,.p (.bG nS z.n.1),.p (.sl 8 (TR.dZ exs)),.p (.i .i64 (TR.dZ exs).length),.p (.i .i64 (ix j))]) (fun _ q=>[.cells [.p (.i .i64 ek),.p (.i .i64 en),.p (.s et),.p (.sl 1 (ens.map TR.bD)),.p (.sl 3 (TR.lG ets)),.p (.sl 8 (TR.dZ exs)),.p (.sl 12 (TR.jz ems)),.p (.i .i64 ep)],iE q.n,yX q.a,KK q.b,.store 84 true mS nx 6 (cy iU ((m,⟨q.fu,c1,c2,c3,qi,c4⟩)::rest))]) (fun j q=>qC (iG n) z.n.1 (exs.drop j) q=some z2) z1 ⟨rfl,rfl,rfl,rfl⟩ ha ?_;intro j q hj hQ
     try dsimp only at hQ
     (conv=>whnf);refine aj ?_ ?_<;>intro h1<;>conv=>whnf
     ·have hj1:=cj h1 (by rw[hlx]) hj (by omega)
      obtain⟨x,hx⟩:∃x,exs[j]?=some x:=⟨_,List.getElem?_eq_getElem hj1⟩
      rw[drop_cons hx,qC]at hQ
      cases hn0:aJ z.n.1 q.n.2 with
      |none=>rw[hn0]at hQ;cases hQ
      |some n0=>
       rw[hn0]at hQ;dsimp only at hQ
       cases hr:iG n x q with
       |none=>rw[hr]at hQ;cases hQ
       |some P=>
        rw[hr]at hQ;have hi:=ih x q P hr;obtain⟨q3,c⟩:=P;dsimp only at hQ hi
        cases hn1:aJ z.n.1 q3.n.2 with
        |none=>rw[hn1]at hQ;cases hQ
        |some n1=>
         rw[hn1]at hQ;dsimp only at hQ
         cases hsb:rC n0.args n1.args with
         |false=>rw[hsb]at hQ;cases hQ
         |true=>
          rw[hsb]at hQ;dsimp only at hQ;have hsb:=Aq hsb;have hxe:=TR.nT hx;obtain⟨xk,xn,xt,xns,xts,xxs,xms,xp⟩:=x;rw[TR.eE]at hxe hi;obtain⟨a1,a2,a3,a4,a5,a6,a7,a8,a9⟩:=n0;obtain⟨b1,b2,b3,b4,b5,b6,b7,b8,b9⟩:=n1;dsimp only at hsb hQ;subst hsb
          cases hpb:mI q3.a a5 c with
          |none=>rw[hpb]at hQ;cases hQ
          |some B=>
           rw[hpb]at hQ;obtain⟨w,B2⟩:=B;dsimp only at hQ;have e1:=bL cY z.n.1 (⟨b1,b2,b3,b4,some B2,b6,b7,b8,b9⟩:Nd) q3.n.2
           cases a5 with
           |none=>
            have hB:=oc hpb;cases hB;refine bM hxe (by omega) ?_;(conv=>whnf);refine bB cY hn0 rfl ?_;(conv=>whnf);refine bg [1000000000,1000000001,1000000002,1000000003] 400 hi ?_;(conv=>whnf);refine ag ⟨Nat.succ_pos _,Nat.le_of_ble_eq_true (by kernel_rfl)⟩ ?_;(conv=>whnf);refine bB cY hn1 rfl ?_;(conv=>whnf);refine ag (.inr ⟨[(4,7)],by kernel_rfl,⟨?_,trivial⟩⟩) ?_
            ·conv=>whnf
             refine⟨by kernel_rfl,?_⟩;refine bB cY hn1 rfl ?_;(conv=>whnf);rfl
            (conv=>whnf);refine⟨hj1,_,⟨?_,rfl,rfl,rfl⟩,hQ⟩;show _=List.map some [bq.cells _,.store 160 true nS q3.n.1 9 (cy cY (aV z.n.1 (⟨b1,b2,b3,b4,some (q3.a.1,1),b6,b7,b8,b9⟩:Nd) q3.n.2)),_,_,_];rw[←e1];rfl
           |some p=>
            obtain⟨al,hal,hp1,hp2,hB⟩:=nq hpb;cases hB;have e2:=map_push (PV.bG nS) q3.a.1 p.1 p.2 al c q3.a.2;refine bM hxe (by omega) ?_;(conv=>whnf);refine bB cY hn0 rfl ?_;(conv=>whnf);refine bg [1000000000,1000000001,1000000002,1000000003] 400 hi ?_;(conv=>whnf);refine⟨rfl,_,aq hal,?_⟩;refine ag ⟨by unfold qF;rw[List.length_map];exact hp1,Nat.le_trans (Nat.mul_le_mul_right _ (show p.2+1≤2000001 by omega)) (Nat.le_of_ble_eq_true (by kernel_rfl))⟩ ?_;(conv=>whnf);refine bB cY hn1 rfl ?_;(conv=>whnf);refine ag (.inr ⟨[(4,7)],by kernel_rfl,⟨?_,trivial⟩⟩) ?_
            ·conv=>whnf
             refine⟨by kernel_rfl,?_⟩;refine bB cY hn1 rfl ?_;(conv=>whnf);rfl
            (conv=>whnf);refine⟨hj1,_,⟨?_,rfl,rfl,rfl⟩,hQ⟩;show _=List.map some [bq.cells _,.store 160 true nS q3.n.1 9 (cy cY (aV z.n.1 (⟨b1,b2,b3,b4,some (q3.a.1,p.2+1),b6,b7,b8,b9⟩:Nd) q3.n.2)),.store 110 false aS (q3.a.1+1) 1 (cy qF ((q3.a.1,al.take p.2++[c])::hU p.1 q3.a.2)),_,_];rw[←e1,show cy qF ((q3.a.1,al.take p.2++[c])::hU p.1 q3.a.2)=_ from e2.symm];rfl
     ·have h1:=cm h1 (by rw[hlx]) hj (by omega)
      subst h1;rw[List.drop_length,qC]at hQ;cases hQ;(conv=>whnf);refine bK (ah _) az (by kernel_rfl) ems.length [0,3,5,76,77,78] [3,1000000000,1000000001,1000000002,1000000003] (fun j (_:Ns)=>[.p (.bG mS m),.ptr 3 0,.p (.bG nS z.n.1),.p (.sl 12 (TR.jz ems)),.p (.i .i64 (TR.jz ems).length),.p (.i .i64 (ix j))]) (fun _ q=>[.cells [.p (.i .i64 ek),.p (.i .i64 en),.p (.s et),.p (.sl 1 (ens.map TR.bD)),.p (.sl 3 (TR.lG ets)),.p (.sl 8 (TR.dZ exs)),.p (.sl 12 (TR.jz ems)),.p (.i .i64 ep)],iE q.n,yX q.a,KK q.b,.store 84 true mS nx 6 (cy iU ((m,⟨q.fu,c1,c2,c3,qi,c4⟩)::rest))]) (fun j q=>qU (iG n) z.n.1 (ems.drop j) q=some z3) z2 ⟨rfl,rfl,rfl,rfl⟩ hm ?_;intro j q hj hQ
      try dsimp only at hQ
      (conv=>whnf);refine aj ?_ ?_<;>intro h1<;>conv=>whnf
      ·have hj1:=cj h1 (by rw[hlm]) hj (by omega)
       obtain⟨x,hx⟩:∃x,ems[j]?=some x:=⟨_,List.getElem?_eq_getElem hj1⟩
       rw[drop_cons hx,qU]at hQ
       cases hn0:aJ z.n.1 q.n.2 with
       |none=>rw[hn0]at hQ;cases hQ
       |some n0=>
        rw[hn0]at hQ;dsimp only at hQ
        cases hr:iG n x.body q with
        |none=>rw[hr]at hQ;cases hQ
        |some P=>
         rw[hr]at hQ;have hi:=ih x.body q P hr;obtain⟨q3,c⟩:=P;dsimp only at hQ hi
         cases hn1:aJ z.n.1 q3.n.2 with
         |none=>rw[hn1]at hQ;cases hQ
         |some n1=>
          rw[hn1]at hQ;dsimp only at hQ
          cases hsb:rC n0.dR n1.dR&&Nat.ble (TR.wP x.pat) 1048576 with
          |false=>rw[hsb]at hQ;cases hQ
          |true=>
           rw[hsb]at hQ;dsimp only at hQ;rw[Bool.and_eq_true]at hsb;have hwp:=Nat.le_of_ble_eq_true hsb.2;have hse:=Aq hsb.1;clear hsb;have hxe:=TR.su hx;have hcp:=TR.Hp x.pat hwp;obtain⟨xpt,xb⟩:=x;dsimp only[TR.eR.pat,TR.eR.body]at hi hcp hQ;rw[TR.eA]at hxe;obtain⟨pk,pn,pt,pa⟩:=xpt;obtain⟨xk,xn,xt,xns,xts,xxs,xms,xp⟩:=xb;rw[TR.eE]at hxe hi;rw[TR.eP]at hxe hcp;obtain⟨a1,a2,a3,a4,a5,a6,a7,a8,a9⟩:=n0;obtain⟨b1,b2,b3,b4,b5,b6,b7,b8,b9⟩:=n1;dsimp only at hse hQ;subst hse
           cases hpb:mI q3.b a6 ⟨.mk pk pn pt pa,c⟩ with
           |none=>rw[hpb]at hQ;cases hQ
           |some B=>
            rw[hpb]at hQ;obtain⟨w,B2⟩:=B;dsimp only at hQ;have e1:=bL cY z.n.1 (⟨b1,b2,b3,b4,b5,some B2,b7,b8,b9⟩:Nd) q3.n.2
            cases a6 with
            |none=>
             have hB:=oc hpb;cases hB;refine bM hxe (by omega) ?_;(conv=>whnf);refine bB cY hn0 rfl ?_;(conv=>whnf);refine iX hcp ?_;(conv=>whnf);refine bg [1000000000,1000000001,1000000002,1000000003] 400 hi ?_;(conv=>whnf);refine ag ⟨Nat.succ_pos _,Nat.le_of_ble_eq_true (by kernel_rfl)⟩ ?_;(conv=>whnf);refine bB cY hn1 rfl ?_;(conv=>whnf);refine ag (.inr ⟨[(4,11)],by kernel_rfl,⟨?_,trivial⟩⟩) ?_
             ·conv=>whnf
              refine⟨by kernel_rfl,?_⟩;refine bB cY hn1 rfl ?_;(conv=>whnf);rfl
             (conv=>whnf);refine⟨hj1,_,⟨?_,rfl,rfl,rfl⟩,hQ⟩;show _=List.map some [bq.cells _,.store 160 true nS q3.n.1 9 (cy cY (aV z.n.1 (⟨b1,b2,b3,b4,b5,some (q3.b.1,1),b7,b8,b9⟩:Nd) q3.n.2)),_,_,_];rw[←e1];rfl
            |some p=>
             obtain⟨al,hal,hp1,hp2,hB⟩:=nq hpb;cases hB;have e2:=map_push P8 q3.b.1 p.1 p.2 al ⟨.mk pk pn pt pa,c⟩ q3.b.2;refine bM hxe (by omega) ?_;(conv=>whnf);refine bB cY hn0 rfl ?_;(conv=>whnf);refine iX hcp ?_;(conv=>whnf);refine bg [1000000000,1000000001,1000000002,1000000003] 400 hi ?_;(conv=>whnf);refine⟨rfl,_,aq hal,?_⟩;refine ag ⟨by unfold EX;rw[List.length_map];exact hp1,Nat.le_trans (Nat.mul_le_mul_right _ (show p.2+1≤2000001 by omega)) (Nat.le_of_ble_eq_true (by kernel_rfl))⟩ ?_;(conv=>whnf);refine bB cY hn1 rfl ?_;(conv=>whnf);refine ag (.inr ⟨[(4,11)],by kernel_rfl,⟨?_,trivial⟩⟩) ?_
             ·conv=>whnf
              refine⟨by kernel_rfl,?_⟩;refine bB cY hn1 rfl ?_;(conv=>whnf);rfl
             (conv=>whnf);refine⟨hj1,_,⟨?_,rfl,rfl,rfl⟩,hQ⟩;show _=List.map some [bq.cells _,.store 160 true nS q3.n.1 9 (cy cY (aV z.n.1 (⟨b1,b2,b3,b4,b5,some (q3.b.1,p.2+1),b7,b8,b9⟩:Nd) q3.n.2)),_,.store 169 false bS (q3.b.1+1) 5 (cy EX ((q3.b.1,al.take p.2++[⟨.mk pk pn pt pa,c⟩])::hU p.1 q3.b.2)),_];rw[←e1,show cy EX ((q3.b.1,al.take p.2++[⟨.mk pk pn pt pa,c⟩])::hU p.1 q3.b.2)=_ from e2.symm];rfl
      ·have h1:=cm h1 (by rw[hlm]) hj (by omega)
       subst h1;rw[List.drop_length,qU]at hQ;cases hQ;refine⟨.inl rfl,⟨s6,s6,s6,s6,trivial⟩⟩
end MN
end
section
open Go Go.AM Go.Proofs TK
set_option maxRecDepth 100000
namespace MN
theorem oZ {α:Type} (enc:α→PV) (k:ByteArray) (v:α):∀es:TM α,bh k es=none→rL (.s k) (enc v) (jw enc es)=jw enc (es++[(k,v)])
 | [],_=>rfl
 |(a,x)::r,h=>by
  rw[bh]at h;show(match sQ (.s k) (.s a) with|true=>_|false=>_)=_;have:sQ (.s k) (.s a)=(k==a):=rfl;rw[this]
  cases hb:k==a with
  |true=>rw[hb]at h;cases h
  |false=>
   rw[hb]at h;dsimp only at h ⊢;show(PV.s a,enc x)::rL (.s k) (enc v) (jw enc r)=_;rw[oZ enc k v r h];rfl
theorem Bu (sp nx k:Nat) (M:List (Nat×TM Cn)) (es:TM Cn) (key:ByteArray) (v:Cn) (hk:aJ k M=some es):
 av Tryz.prog 24 [.p (.amp sp k),.p (.s key),.p (ze v)] [(1000000000,.store 77 true sp nx 0 (cy (bX ze) M))] (.cz []) [(1000000000,.store 77 true sp nx 0 (cy (bX ze) (aV k (firstT es key v) M)))]:=by
 have hlk:=fun d=>bP ze key d es;unfold firstT
 cases hf:bh key es with
 |some x=>
  rw[hf]at hlk;obtain⟨x1,x2⟩:=x;obtain⟨v1,v2⟩:=v;dsimp only;rw[gW hk];refine av.intro (ah Tryz.prog) az Tryz.func24 rfl (by rfl) (by kernel_rfl) (by show 3≤_;decide) rfl ?_;(conv=>whnf);refine ag ⟨rfl,rfl⟩ ?_;refine⟨jw ze es,aq (enc:=bX ze) hk,?_⟩;refine⟨_,_,hlk _,?_⟩;(conv=>whnf);refine⟨.inl rfl,⟨s6,trivial⟩⟩
 |none=>
  rw[hf]at hlk;have hmp:=oZ ze key v es hf;have hse:=bL (bX ze) k (es++[(key,v)]) M;obtain⟨v1,v2⟩:=v;dsimp only;refine av.intro (ah Tryz.prog) az Tryz.func24 rfl (by rfl) (by kernel_rfl) (by show 3≤_;decide) rfl ?_;(conv=>whnf);refine ag ⟨rfl,rfl⟩ ?_;refine⟨jw ze es,aq (enc:=bX ze) hk,?_⟩;refine⟨_,_,hlk _,?_⟩;(conv=>whnf);refine ag ⟨rfl,rfl⟩ ?_;refine⟨jw ze es,aq (enc:=bX ze) hk,?_⟩;(conv=>whnf);refine⟨.inl rfl,⟨⟨rfl,rfl,rfl,rfl,rfl,?_⟩,trivial⟩⟩;rw[←hse];unfold bX;rw[←hmp]
  all_goals rfl
theorem tI (sp nx k:Nat) (M:List (Nat×TM Fn)) (es:TM Fn) (key:ByteArray) (v:Fn) (hk:aJ k M=some es):
 av Tryz.prog 26 [.p (.amp sp k),.p (.s key),.p (eFn v)] [(1000000000,.store 78 true sp nx 0 (cy (bX eFn) M))] (.cz []) [(1000000000,.store 78 true sp nx 0 (cy (bX eFn) (aV k (firstT es key v) M)))]:=by
 have hlk:=fun d=>bP eFn key d es;unfold firstT
 cases hf:bh key es with
 |some x=>
  rw[hf]at hlk;obtain⟨x1,x2⟩:=x;obtain⟨v1,v2⟩:=v;dsimp only;rw[gW hk];refine av.intro (ah Tryz.prog) az Tryz.func26 rfl (by rfl) (by kernel_rfl) (by show 3≤_;decide) rfl ?_;(conv=>whnf);refine ag ⟨rfl,rfl⟩ ?_;refine⟨jw eFn es,aq (enc:=bX eFn) hk,?_⟩;refine⟨_,_,hlk _,?_⟩;(conv=>whnf);refine⟨.inl rfl,⟨s6,trivial⟩⟩
 |none=>
  rw[hf]at hlk;have hmp:=oZ eFn key v es hf;have hse:=bL (bX eFn) k (es++[(key,v)]) M;obtain⟨v1,v2⟩:=v;dsimp only;refine av.intro (ah Tryz.prog) az Tryz.func26 rfl (by rfl) (by kernel_rfl) (by show 3≤_;decide) rfl ?_;(conv=>whnf);refine ag ⟨rfl,rfl⟩ ?_;refine⟨jw eFn es,aq (enc:=bX eFn) hk,?_⟩;refine⟨_,_,hlk _,?_⟩;(conv=>whnf);refine ag ⟨rfl,rfl⟩ ?_;refine⟨jw eFn es,aq (enc:=bX eFn) hk,?_⟩;(conv=>whnf);refine⟨.inl rfl,⟨⟨rfl,rfl,rfl,rfl,rfl,?_⟩,trivial⟩⟩;rw[←hse];unfold bX;rw[←hmp]
  all_goals rfl
theorem Be (sp nx k:Nat) (M:List (Nat×TM Fn)) (es:TM Fn) (key:ByteArray) (v:Fn) (hk:aJ k M=some es):
 av Tryz.prog 28 [.p (.amp sp k),.p (.s key),.p (eFn v)] [(1000000000,.store 80 true sp nx 0 (cy (bX eFn) M))] (.cz []) [(1000000000,.store 80 true sp nx 0 (cy (bX eFn) (aV k (firstT es key v) M)))]:=by
 have hlk:=fun d=>bP eFn key d es;unfold firstT
 cases hf:bh key es with
 |some x=>
  rw[hf]at hlk;obtain⟨x1,x2⟩:=x;obtain⟨v1,v2⟩:=v;dsimp only;rw[gW hk];refine av.intro (ah Tryz.prog) az Tryz.func28 rfl (by rfl) (by kernel_rfl) (by show 3≤_;decide) rfl ?_;(conv=>whnf);refine ag ⟨rfl,rfl⟩ ?_;refine⟨jw eFn es,aq (enc:=bX eFn) hk,?_⟩;refine⟨_,_,hlk _,?_⟩;(conv=>whnf);refine⟨.inl rfl,⟨s6,trivial⟩⟩
 |none=>
  rw[hf]at hlk;have hmp:=oZ eFn key v es hf;have hse:=bL (bX eFn) k (es++[(key,v)]) M;obtain⟨v1,v2⟩:=v;dsimp only;refine av.intro (ah Tryz.prog) az Tryz.func28 rfl (by rfl) (by kernel_rfl) (by show 3≤_;decide) rfl ?_;(conv=>whnf);refine ag ⟨rfl,rfl⟩ ?_;refine⟨jw eFn es,aq (enc:=bX eFn) hk,?_⟩;refine⟨_,_,hlk _,?_⟩;(conv=>whnf);refine ag ⟨rfl,rfl⟩ ?_;refine⟨jw eFn es,aq (enc:=bX eFn) hk,?_⟩;(conv=>whnf);refine⟨.inl rfl,⟨⟨rfl,rfl,rfl,rfl,rfl,?_⟩,trivial⟩⟩;rw[←hse];unfold bX;rw[←hmp]
  all_goals rfl
theorem BO (sp nx k:Nat) (M:List (Nat×TM ByteArray)) (es:TM ByteArray) (key:ByteArray) (v:ByteArray) (hk:aJ k M=some es):
 av Tryz.prog 25 [.p (.amp sp k),.p (.s key),.p (PV.s v)] [(1000000000,.store 79 true sp nx 0 (cy (bX PV.s) M))] (.cz []) [(1000000000,.store 79 true sp nx 0 (cy (bX PV.s) (aV k (firstT es key v) M)))]:=by
 have hlk:=fun d=>bP PV.s key d es;unfold firstT
 cases hf:bh key es with
 |some x=>
  rw[hf]at hlk
  skip
  skip
  dsimp only;rw[gW hk];refine av.intro (ah Tryz.prog) az Tryz.func25 rfl (by rfl) (by kernel_rfl) (by show 3≤_;decide) rfl ?_;(conv=>whnf);refine ag ⟨rfl,rfl⟩ ?_;refine⟨jw PV.s es,aq (enc:=bX PV.s) hk,?_⟩;refine⟨_,_,hlk _,?_⟩;(conv=>whnf);refine⟨.inl rfl,⟨s6,trivial⟩⟩
 |none=>
  rw[hf]at hlk;have hmp:=oZ PV.s key v es hf;have hse:=bL (bX PV.s) k (es++[(key,v)]) M
  skip
  dsimp only;refine av.intro (ah Tryz.prog) az Tryz.func25 rfl (by rfl) (by kernel_rfl) (by show 3≤_;decide) rfl ?_;(conv=>whnf);refine ag ⟨rfl,rfl⟩ ?_;refine⟨jw PV.s es,aq (enc:=bX PV.s) hk,?_⟩;refine⟨_,_,hlk _,?_⟩;(conv=>whnf);refine ag ⟨rfl,rfl⟩ ?_;refine⟨jw PV.s es,aq (enc:=bX PV.s) hk,?_⟩;(conv=>whnf);refine⟨.inl rfl,⟨⟨rfl,rfl,rfl,rfl,rfl,?_⟩,trivial⟩⟩;rw[←hse];unfold bX;rw[←hmp]
  all_goals rfl
theorem DR (w:Mw) (f:TR.zB) (z:Ns) (R:Ns×Fn) (hF:Hf f z=some R):
 av Tryz.prog 27 [.p (.bG mS w.m),.p (TR.cU f)] (hN w z) (.p (eFn R.2)) (hN w R.1):=by
 unfold Hf at hF
 cases hb:Nat.ble f.ns.length 2000000 with
 |false=>rw[hb]at hF;cases hF
 |true=>
  rw[hb]at hF;dsimp only at hF
  cases hn:iG (TR.wE f.body) f.body z with
  |none=>rw[hn]at hF;cases hF
  |some Q=>
   rw[hn]at hF;cases hF;have c1:=TR.pE f.ns (by have:=Nat.le_of_ble_eq_true hb;omega);have c2:=uw _ w f.body z Q hn;obtain⟨fnm,fps,fns,fts,⟨tk,tn,ta⟩,⟨xk,xn,xt,xns,xts,xxs,xms,xp⟩⟩:=f;unfold hN at *;unfold TR.cU;dsimp only at *;rw[TR.eE]at c2;rw[TR.eE,TR.eT];refine av.intro (ah Tryz.prog) az Tryz.func27 rfl (by rfl) (by kernel_rfl) (by show 2≤_;decide) rfl ?_;(conv=>whnf);refine iX c1 ?_;(conv=>whnf);refine bg [1000000000,1000000001,1000000002,1000000003] 400 c2 ?_;(conv=>whnf);refine ag (.inl (by kernel_rfl)) ?_;(conv=>whnf);refine⟨.inl rfl,⟨s6,s6,s6,s6,trivial⟩⟩
end MN
end
