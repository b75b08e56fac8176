/- Contracts, and the law, for every input. No conditions. -/
import Derived.Test.YtdmopjgjhfhfdaaGreatDoorTR7
import Derived.Test.YtdmopjgjhfhfdaaGreatDoorMQ3
set_option linter.all false
section
open Go Go.AM Go.Proofs
set_option maxRecDepth 100000
namespace TR
theorem oO (l:List ByteArray) (h:l.length≤2097152):aV Tryz.prog 29 [.p (.sl 1 (l.map bE))] (.so 1 (l.map bE)):=by
 cases l with
 |nil=>
  refine aV.KG (pre:=[]) (post:=[]) (sz:=1) ?_ ?_
  ·refine aV.intro (ah Tryz.prog) aC Tryz.func29 rfl (by rfl) (by kernel_rfl) (by show 1≤_;decide) rfl ?_
   (conv=>whnf);exact .inl rfl
  ·refine aV.intro (ah Tryz.prog) aC Tryz.func29 rfl (by rfl) (by kernel_rfl) (by show 1≤_;decide) rfl ?_
   (conv=>whnf);refine ag (by decide) ?_;(conv=>whnf);exact .inl rfl
 |cons a r=>
  refine aV.intro (ah Tryz.prog) aC Tryz.func29 rfl (by rfl) (by kernel_rfl) (by show 1≤_;decide) rfl ?_;(conv=>whnf);refine ag (show(([]:List PV).length+((a::r).map bE).length)*16≤140737488355328 by simp at h ⊢;omega) ?_;(conv=>whnf);exact .inl rfl
theorem DE (g:Pt→Pt) (f:Nat) (l:List Pt) (hl:l.length≤1048576) (h:∀x∈l,aV Tryz.prog f [.p (eP x)] (.p (eP (g x)))):aV Tryz.prog 77 [.p (.sl 4 (oA l)),.fn f [] []] (.p (.sl 4 (oA (l.map g)))):=by
 refine aV.intro (ah Tryz.prog) aC Tryz.func77 rfl (by rfl) (by kernel_rfl) (by show 2≤_;decide) rfl ?_;(conv=>whnf);refine nW 5 3 rfl ?_;refine bL (ah _) aC (by kernel_rfl) l.length [1,5,8,9,10] [] (fun k (s:List Pt)=>[.fn f [] [],.so 4 (oA s),.p (.sl 4 (oA l)),.p (.i .i64 (oA l).length),.p (.i .i64 (ix k))]) (fun _ _=>[]) (fun k s=>s=(l.take k).map g) [] ⟨rfl,rfl,rfl,rfl⟩ (by simp) ?_;intro k s hk hs;have hsl:s.length≤1048576:=by rw[hs];simp;omega
 (conv=>whnf);refine aj ?_ ?_<;>intro h1<;>conv=>whnf
 ·have hk1:=cm h1 (by rw[gT]) hk (by omega)
  obtain⟨b,hb1⟩:∃b,l[k]?=some b:=⟨_,List.getElem?_eq_getElem hk1⟩
  refine bO (tC hb1) (by omega) ?_;have hc:=h b (List.mem_of_getElem? hb1);have hts:(l.take (k+1)).map g=s++[g b]:=by rw[cK hb1,List.map_append,hs];rfl
  generalize g b=c at hc hts;obtain⟨b1,b2,b3,b4⟩:=b;obtain⟨c1,c2,c3,c4⟩:=c;(conv=>whnf);refine jA hc ?_;(conv=>whnf);refine ag (show((oA s).length+1)*56≤140737488355328 by rw[gT];omega) ?_;(conv=>whnf);refine⟨hk1,_,⟨rfl,?_,rfl,rfl⟩,hts.symm⟩;rw[G4];rfl
 ·have hk1:=cq h1 (by rw[gT]) hk (by omega)
  have hs2:s=l.map g:=by rw[hs,hk1,List.take_length]
  subst hs2;exact .inr (.inl rfl)
theorem Iv (t:Pt):wP t≤1048576→aV Tryz.prog 47 [.p (eP t)] (.p (eP t)):=by
 induction t using Pt.ind with
 |h k0 n0 t0 as0 ih=>
 intro hw;have h1:=zj k0 n0 t0 as0;have h2:=GV as0;have hm:=DE (fun x=>x) 47 as0 (by omega) (fun x hx=>ih x hx (by have:=GY hx;omega));rw[List.map_id']at hm;refine aV.intro (ah Tryz.prog) aC Tryz.func47 rfl (by rfl) (by kernel_rfl) (by show 1≤_;decide) rfl ?_;(conv=>whnf);refine jA hm ?_;(conv=>whnf);exact .inl rfl
end TR
end
section
open Go Go.AM Go.Proofs TK
set_option maxRecDepth 100000
namespace MN
structure Mw where
 nx:Nat
 m:Nat
 c1:Nat
 c2:Nat
 c3:Nat
 qi:Option (Nat×Nat)
 c4:Nat
 rest:List (Nat×Mk)
def Mw.OW (w:Mw) (fu:Option (Nat×Nat)):bf Mk:=(w.nx,(w.m,⟨fu,w.c1,w.c2,w.c3,w.qi,w.c4⟩)::w.rest)
def hN (w:Mw) (z:Ns):Heap:=[(1000000000,iH z.n),(1000000001,xS z.a),(1000000002,K8 z.b),(1000000003,sG (w.OW z.fu))]
noncomputable def Px:Nat→Option TI:=hint (hint (hint (gN (jQ Tryz.prog) 160 [1,1,1,1,0,0,1,1,1]) 160 [1000022]) 81 [1000071,1000052]) 158 [1000096]
theorem BQ:bz Tryz.prog Px:=((((ah Tryz.prog).gN _ _).hint _ _).hint _ _).hint _ _
theorem map_push {α:Type} (g:α→PV) (nx g1 g2:Nat) (l:List α) (x:α) (M:List (Nat×List α)):(nx,(l.map g).take g2++[g x])::mH g1 (cC (fun l=>l.map g) M)=cC (fun l=>l.map g) ((nx,l.take g2++[x])::gW g1 M):=by
 rw[cC,uo];simp[List.map_take]
theorem nJ {α:Type} {z:bf (List α)} {c:α} {R:bf (List α)×(Nat×Nat)} (h:mP z none c=some R):R=((z.1+1,(z.1,[c])::z.2),(z.1,1)):=by cases h;rfl
theorem nI {α:Type} {z:bf (List α)} {q:Nat×Nat} {c:α} {R:bf (List α)×(Nat×Nat)} (h:mP z (some q) c=some R):∃l,aK q.1 z.2=some l∧q.2≤l.length∧q.2≤2000000∧R=((z.1+1,(z.1,l.take q.2++[c])::gW q.1 z.2),(z.1,q.2+1)):=by
 unfold mP at h;dsimp only at h
 cases hl:aK q.1 z.2 with
 |none=>rw[hl]at h;cases h
 |some l=>
  rw[hl]at h;dsimp only at h
  cases hg:Nat.ble q.2 l.length&&Nat.ble q.2 2000000 with
  |false=>rw[hg]at h;cases h
  |true=>
   rw[hg]at h;rw[Bool.and_eq_true]at hg;cases h;exact⟨l,rfl,Nat.le_of_ble_eq_true hg.1,Nat.le_of_ble_eq_true hg.2,rfl⟩
theorem uK:∀(n:Nat) (w:Mw) (e:TR.Ex) (z:Ns) (R:Ns×Nat),iR n e z=some R→
 av Tryz.prog 30 [.p (.bH mS w.m),.p (TR.eE e)] (hN w z) (.p (.bH nS R.2)) (hN w R.1)
 |0,_,_,_,_,hF=>by cases hF
 |n+1,w,e,z,R,hF=>by
  have ih:=uK n w;unfold iR at hF
  cases hg:Nat.ble e.args.length 2000000&&(Nat.ble e.dU.length 2000000&&Nat.ble e.names.length 2000000) with
  |false=>rw[hg]at hF;cases hF
  |true=>
   rw[hg]at hF;dsimp only at hF;rw[Bool.and_eq_true,Bool.and_eq_true]at hg;have g1:=Nat.le_of_ble_eq_true hg.1;have g2:=Nat.le_of_ble_eq_true hg.2.1;have g3:=Nat.le_of_ble_eq_true hg.2.2
   cases hfu:KU e z.n.1 ⟨(z.n.1+1,(z.n.1,tq e)::z.n.2),z.a,z.b,z.fu⟩ with
   |none=>rw[hfu]at hF;cases hF
   |some z1=>
   rw[hfu]at hF;dsimp only at hF
   cases ha:rz (iR n) z.n.1 e.args z1 with
   |none=>rw[ha]at hF;cases hF
   |some z2=>
    rw[ha]at hF;dsimp only at hF
    cases hm:qS (iR n) z.n.1 e.dU z2 with
    |none=>rw[hm]at hF;cases hF
    |some z3=>
     rw[hm]at hF;cases hF;have hcl:=TR.oO e.names (by omega);have hnd:=TR.yV e;have hfr:=TR.free_spec e;have hfe:=fun fn fr=>(rfl:({ tq e with fn:=fn,free:=fr }:Nd)=⟨e.kind,e.num,e.text,e.names,none,none,TR.dZ e.kind e.num e.args.length,fn,fr⟩)
     unfold KU at hfu;obtain⟨ek,en,et,ens,ets,exs,ems,ep⟩:=e;obtain⟨nx,m,c1,c2,c3,qi,c4,rest⟩:=w;unfold tq at hfu;simp only[TR.Ex.kind,TR.Ex.num,TR.Ex.text,TR.Ex.names,TR.Ex.args,TR.Ex.dU]at ha hm hcl hnd hfu g1 g2 g3;rw[TR.eE]at hnd hfr ⊢;unfold hN iH xS K8 sG Mw.OW at *;dsimp only at *;have hlx:(TR.eg exs).length=exs.length:=TR.cz exs;have hlm:(TR.jF ems).length=ems.length:=TR.iJ ems;have hm0:∀fu,aK m ((m,(⟨fu,c1,c2,c3,qi,c4⟩:Mk))::rest)=some ⟨fu,c1,c2,c3,qi,c4⟩:=fun fu=>aQ _ _ _;refine av.pZ BQ Tryz.func30 rfl (by rfl) (by show 2≤_;decide) rfl ?_;refine iN.cut BQ aC (by kernel_rfl) 3 [0,3,5] [3,1000000000,1000000001,1000000002,1000000003] (fun _:Unit=>[.p (.bH mS m),.ptr 3 0,.p (.bH nS z.n.1)]) (fun _=>[.cells [.p (.i .i64 ek),.p (.i .i64 en),.p (.s et),.p (.sl 1 (ens.map TR.bE)),.p (.sl 3 (TR.lK ets)),.p (.sl 8 (TR.eg exs)),.p (.sl 12 (TR.jF ems)),.p (.i .i64 ep)],.store 160 true nS z1.n.1 9 (cC dc z1.n.2),.store 110 false aS z1.a.1 1 (cC ry z1.a.2),.store 169 false bS z1.b.1 5 (cC Fm z1.b.2),.store 84 true mS nx 6 (cC iU ((m,⟨z1.fu,c1,c2,c3,qi,c4⟩)::rest))]) (fun _=>True) ?_ ?_
     ·conv=>whnf
      refine jA hcl ?_;(conv=>whnf);refine jA hnd ?_;(conv=>whnf);refine ag (.inl (by kernel_rfl)) ?_;(conv=>whnf);refine aj ?_ ?_<;>intro k1<;>conv=>whnf
      rotate_left
      ·rw[show(ek==10)=false from k1,Bool.false_and]at hfu
       cases hfu;exact⟨(),⟨rfl,rfl,rfl,rfl⟩,trivial⟩
      rw[show(ek==10)=true from k1,Bool.true_and]at hfu
      have hkz:decide (((TR.eg exs).length:Int)>0)=!(Nat.beq exs.length 0):=by
       rw[hlx]
       cases exs.length with
       |zero=>rfl
       |succ n=>exact decide_eq_true (by omega)
      refine aj ?_ ?_<;>intro k2<;>conv=>whnf
      rotate_left
      ·rw[←hkz,show decide (((TR.eg exs).length:Int)>0)=false from k2]at hfu
       cases hfu;exact⟨(),⟨rfl,rfl,rfl,rfl⟩,trivial⟩
      rw[←hkz,show decide (((TR.eg exs).length:Int)>0)=true from k2]at hfu;dsimp only at hfu
      cases hwe:Nat.ble (TR.wE (.mk ek en et ens ets exs ems ep)) 1048640 with
      |false=>rw[hwe]at hfu;cases hfu
      |true=>
       rw[hwe]at hfu;have hfr:=hfr (Nat.le_of_ble_eq_true hwe);dsimp only at hfu;generalize TR.ng (.mk ek en et ens ets exs ems ep)=fr at hfu hfr
       cases hpb:mP z.a z.fu z.n.1 with
       |none=>rw[hpb]at hfu;cases hfu
       |some B=>
        rw[hpb]at hfu;obtain⟨B1,B2⟩:=B;cases hfu;have hn0:rD z.n.1 ((z.n.1,dc ⟨ek,en,et,ens,none,none,TR.dZ ek en exs.length,0,[]⟩)::cC dc z.n.2)=some (dc ⟨ek,en,et,ens,none,none,TR.dZ ek en exs.length,0,[]⟩):=uh _ _ _;have e1:=qp z.n.1 (dc ⟨ek,en,et,ens,none,none,TR.dZ ek en exs.length,0,[]⟩) (dc ⟨ek,en,et,ens,none,none,TR.dZ ek en exs.length,(gA z.fu:Int),fr⟩) (cC dc z.n.2);have e3:=qp m (iU ⟨z.fu,c1,c2,c3,qi,c4⟩) (iU ⟨some B2,c1,c2,c3,qi,c4⟩) (cC iU rest);rw[dL];generalize hzf:z.fu=zf at *
        cases zf with
        |none=>
         have hB:=nJ hpb;cases hB;refine ag ⟨rfl,by decide,.inl rfl⟩ ?_;refine⟨_,aq (hm0 none),?_⟩;refine au (i:=0) rfl ?_;(conv=>whnf);refine bh [] 300 hfr ?_;(conv=>whnf);refine ag ⟨rfl,by decide,.inl rfl⟩ ?_;refine⟨_,hn0,?_⟩;refine au (i:=0) rfl ?_;(conv=>whnf);refine ag ⟨rfl,by decide,.inl rfl⟩ ?_;refine⟨_,(aJ hn0),?_⟩;refine au (i:=0) rfl ?_;(conv=>whnf);refine ag (.inl (by kernel_rfl)) ?_;(conv=>whnf);refine ag ⟨rfl,by decide,.inl rfl⟩ ?_;refine⟨_,aq (hm0 none),?_⟩;refine au (i:=0) rfl ?_;(conv=>whnf);refine ag ⟨Nat.succ_pos _,Nat.le_of_ble_eq_true (by kernel_rfl)⟩ ?_;(conv=>whnf);refine ag ⟨rfl,by decide,.inl rfl⟩ ?_;refine⟨_,aq (hm0 none),?_⟩;refine au (i:=0) rfl ?_;(conv=>whnf);refine⟨(),⟨?_,rfl,rfl,rfl⟩,trivial⟩;show _=List.map some [br.cells _,.store 160 true nS (z.n.1+1) 9 ((z.n.1,dc ⟨ek,en,et,ens,none,none,TR.dZ ek en exs.length,(gA none:Int),fr⟩)::cC dc z.n.2),.store 110 false aS (z.a.1+1) 1 (cC ry ((z.a.1,[z.n.1])::z.a.2)),_,.store 84 true mS nx 6 ((m,iU ⟨some (z.a.1,1),c1,c2,c3,qi,c4⟩)::cC iU rest)];rw[←e1,←e3,show(1:Nat)=1 from rfl];rw[←bV z.n.1 _ _ ((z.n.1,dc _)::cC dc z.n.2)];rfl
        |some p=>
         obtain⟨al,hal,hp1,hp2,hB⟩:=nI hpb;cases hB;have e2:=map_push (PV.bH nS) z.a.1 p.1 p.2 al z.n.1 z.a.2;refine ag ⟨rfl,by decide,.inl rfl⟩ ?_;refine⟨_,aq (hm0 (some p)),?_⟩;refine au (i:=0) rfl ?_;(conv=>whnf);refine bh [] 300 hfr ?_;(conv=>whnf);refine ag ⟨rfl,by decide,.inl rfl⟩ ?_;refine⟨_,hn0,?_⟩;refine au (i:=0) rfl ?_;(conv=>whnf);refine ag ⟨rfl,by decide,.inl rfl⟩ ?_;refine⟨_,(aJ hn0),?_⟩;refine au (i:=0) rfl ?_;(conv=>whnf);refine ag (.inl (by kernel_rfl)) ?_;(conv=>whnf);refine ag ⟨rfl,by decide,.inl rfl⟩ ?_;refine⟨_,aq (hm0 (some p)),?_⟩;refine au (i:=0) rfl ?_;(conv=>whnf);refine⟨rfl,_,aq hal,?_⟩;refine ag ⟨by unfold ry;rw[List.length_map];exact hp1,Nat.le_trans (Nat.mul_le_mul_right _ (show p.2+1≤2000001 by omega)) (Nat.le_of_ble_eq_true (by kernel_rfl))⟩ ?_;(conv=>whnf);refine ag ⟨rfl,by decide,.inl rfl⟩ ?_;refine⟨_,aq (hm0 (some p)),?_⟩;refine au (i:=0) rfl ?_;(conv=>whnf);refine⟨(),⟨?_,rfl,rfl,rfl⟩,trivial⟩;show _=List.map some [br.cells _,.store 160 true nS (z.n.1+1) 9 ((z.n.1,dc ⟨ek,en,et,ens,none,none,TR.dZ ek en exs.length,(gA (some p):Int),fr⟩)::cC dc z.n.2),.store 110 false aS (z.a.1+1) 1 (cC ry ((z.a.1,al.take p.2++[z.n.1])::gW p.1 z.a.2)),_,.store 84 true mS nx 6 ((m,iU ⟨some (z.a.1,p.2+1),c1,c2,c3,qi,c4⟩)::cC iU rest)];rw[←e1,←e3,show cC ry ((z.a.1,al.take p.2++[z.n.1])::gW p.1 z.a.2)=_ from e2.symm];rw[←bV z.n.1 _ _ ((z.n.1,dc _)::cC dc z.n.2)];rfl
     rintro _ _;refine iN.fin BQ aC (by kernel_rfl) ?_;(conv=>whnf);refine bL (ah _) aC (by kernel_rfl) exs.length [0,3,5,56,57,58] [3,1000000000,1000000001,1000000002,1000000003] (fun j (_:Ns)=>[.p (.bH mS m),.ptr 3 0,.p (.bH nS z.n.1),.p (.sl 8 (TR.eg exs)),.p (.i .i64 (TR.eg exs).length),.p (.i .i64 (ix j))]) (fun _ q=>[.cells [.p (.i .i64 ek),.p (.i .i64 en),.p (.s et),.p (.sl 1 (ens.map TR.bE)),.p (.sl 3 (TR.lK ets)),.p (.sl 8 (TR.eg exs)),.p (.sl 12 (TR.jF ems)),.p (.i .i64 ep)],iH q.n,xS q.a,K8 q.b,.store 84 true mS nx 6 (cC iU ((m,⟨q.fu,c1,c2,c3,qi,c4⟩)::rest))]) (fun j q=>rz (iR n) z.n.1 (exs.drop j) q=some z2) z1 ⟨rfl,rfl,rfl,rfl⟩ ha ?_;intro j q hj hQ
     try dsimp only at hQ
     (conv=>whnf);refine aj ?_ ?_<;>intro h1<;>conv=>whnf
     ·have hj1:=cm h1 (by rw[hlx]) hj (by omega)
      obtain⟨x,hx⟩:∃x,exs[j]?=some x:=⟨_,List.getElem?_eq_getElem hj1⟩
      rw[drop_cons hx,rz]at hQ
      cases hn0:aK z.n.1 q.n.2 with
      |none=>rw[hn0]at hQ;cases hQ
      |some n0=>
       rw[hn0]at hQ;dsimp only at hQ
       cases hr:iR n x q with
       |none=>rw[hr]at hQ;cases hQ
       |some P=>
        rw[hr]at hQ;have hi:=ih x q P hr;obtain⟨q3,c⟩:=P;dsimp only at hQ hi
        cases hn1:aK z.n.1 q3.n.2 with
        |none=>rw[hn1]at hQ;cases hQ
        |some n1=>
         rw[hn1]at hQ;dsimp only at hQ
         cases hsb:rM n0.args n1.args with
         |false=>rw[hsb]at hQ;cases hQ
         |true=>
          rw[hsb]at hQ;dsimp only at hQ;have hsb:=AB hsb;have hxe:=TR.nQ hx;obtain⟨xk,xn,xt,xns,xts,xxs,xms,xp⟩:=x;rw[TR.eE]at hxe hi;obtain⟨a1,a2,a3,a4,a5,a6,a7,a8,a9⟩:=n0;obtain⟨b1,b2,b3,b4,b5,b6,b7,b8,b9⟩:=n1;dsimp only at hsb hQ;subst hsb
          cases hpb:mP q3.a a5 c with
          |none=>rw[hpb]at hQ;cases hQ
          |some B=>
           rw[hpb]at hQ;obtain⟨w,B2⟩:=B;dsimp only at hQ;have e1:=bM dc z.n.1 (⟨b1,b2,b3,b4,some B2,b6,b7,b8,b9⟩:Nd) q3.n.2
           cases a5 with
           |none=>
            have hB:=nJ hpb;cases hB;refine bO hxe (by omega) ?_;(conv=>whnf);refine bC dc hn0 rfl ?_;(conv=>whnf);refine bh [1000000000,1000000001,1000000002,1000000003] 400 hi ?_;(conv=>whnf);refine ag ⟨Nat.succ_pos _,Nat.le_of_ble_eq_true (by kernel_rfl)⟩ ?_;(conv=>whnf);refine bC dc hn1 rfl ?_;(conv=>whnf);refine ag (.inr ⟨[(4,7)],by kernel_rfl,⟨?_,trivial⟩⟩) ?_
            ·conv=>whnf
             refine⟨by kernel_rfl,?_⟩;refine bC dc hn1 rfl ?_;(conv=>whnf);rfl
            (conv=>whnf);refine⟨hj1,_,⟨?_,rfl,rfl,rfl⟩,hQ⟩;show _=List.map some [br.cells _,.store 160 true nS q3.n.1 9 (cC dc (aW z.n.1 (⟨b1,b2,b3,b4,some (q3.a.1,1),b6,b7,b8,b9⟩:Nd) q3.n.2)),_,_,_];rw[←e1];rfl
           |some p=>
            obtain⟨al,hal,hp1,hp2,hB⟩:=nI hpb;cases hB;have e2:=map_push (PV.bH nS) q3.a.1 p.1 p.2 al c q3.a.2;refine bO hxe (by omega) ?_;(conv=>whnf);refine bC dc hn0 rfl ?_;(conv=>whnf);refine bh [1000000000,1000000001,1000000002,1000000003] 400 hi ?_;(conv=>whnf);refine⟨rfl,_,aq hal,?_⟩;refine ag ⟨by unfold ry;rw[List.length_map];exact hp1,Nat.le_trans (Nat.mul_le_mul_right _ (show p.2+1≤2000001 by omega)) (Nat.le_of_ble_eq_true (by kernel_rfl))⟩ ?_;(conv=>whnf);refine bC dc hn1 rfl ?_;(conv=>whnf);refine ag (.inr ⟨[(4,7)],by kernel_rfl,⟨?_,trivial⟩⟩) ?_
            ·conv=>whnf
             refine⟨by kernel_rfl,?_⟩;refine bC dc hn1 rfl ?_;(conv=>whnf);rfl
            (conv=>whnf);refine⟨hj1,_,⟨?_,rfl,rfl,rfl⟩,hQ⟩;show _=List.map some [br.cells _,.store 160 true nS q3.n.1 9 (cC dc (aW z.n.1 (⟨b1,b2,b3,b4,some (q3.a.1,p.2+1),b6,b7,b8,b9⟩:Nd) q3.n.2)),.store 110 false aS (q3.a.1+1) 1 (cC ry ((q3.a.1,al.take p.2++[c])::gW p.1 q3.a.2)),_,_];rw[←e1,show cC ry ((q3.a.1,al.take p.2++[c])::gW p.1 q3.a.2)=_ from e2.symm];rfl
     ·have h1:=cq h1 (by rw[hlx]) hj (by omega)
      subst h1;rw[List.drop_length,rz]at hQ;cases hQ;(conv=>whnf);refine bL (ah _) aC (by kernel_rfl) ems.length [0,3,5,76,77,78] [3,1000000000,1000000001,1000000002,1000000003] (fun j (_:Ns)=>[.p (.bH mS m),.ptr 3 0,.p (.bH nS z.n.1),.p (.sl 12 (TR.jF ems)),.p (.i .i64 (TR.jF ems).length),.p (.i .i64 (ix j))]) (fun _ q=>[.cells [.p (.i .i64 ek),.p (.i .i64 en),.p (.s et),.p (.sl 1 (ens.map TR.bE)),.p (.sl 3 (TR.lK ets)),.p (.sl 8 (TR.eg exs)),.p (.sl 12 (TR.jF ems)),.p (.i .i64 ep)],iH q.n,xS q.a,K8 q.b,.store 84 true mS nx 6 (cC iU ((m,⟨q.fu,c1,c2,c3,qi,c4⟩)::rest))]) (fun j q=>qS (iR n) z.n.1 (ems.drop j) q=some z3) z2 ⟨rfl,rfl,rfl,rfl⟩ hm ?_;intro j q hj hQ
      try dsimp only at hQ
      (conv=>whnf);refine aj ?_ ?_<;>intro h1<;>conv=>whnf
      ·have hj1:=cm h1 (by rw[hlm]) hj (by omega)
       obtain⟨x,hx⟩:∃x,ems[j]?=some x:=⟨_,List.getElem?_eq_getElem hj1⟩
       rw[drop_cons hx,qS]at hQ
       cases hn0:aK z.n.1 q.n.2 with
       |none=>rw[hn0]at hQ;cases hQ
       |some n0=>
        rw[hn0]at hQ;dsimp only at hQ
        cases hr:iR n x.body q with
        |none=>rw[hr]at hQ;cases hQ
        |some P=>
         rw[hr]at hQ;have hi:=ih x.body q P hr;obtain⟨q3,c⟩:=P;dsimp only at hQ hi
         cases hn1:aK z.n.1 q3.n.2 with
         |none=>rw[hn1]at hQ;cases hQ
         |some n1=>
          rw[hn1]at hQ;dsimp only at hQ
          cases hsb:rM n0.dU n1.dU&&Nat.ble (TR.wP x.pat) 1048576 with
          |false=>rw[hsb]at hQ;cases hQ
          |true=>
           rw[hsb]at hQ;dsimp only at hQ;rw[Bool.and_eq_true]at hsb;have hwp:=Nat.le_of_ble_eq_true hsb.2;have hse:=AB hsb.1;clear hsb;have hxe:=TR.s9 hx;have hcp:=TR.Iv x.pat hwp;obtain⟨xpt,xb⟩:=x;dsimp only[TR.eU.pat,TR.eU.body]at hi hcp hQ;rw[TR.eA]at hxe;obtain⟨pk,pn,pt,pa⟩:=xpt;obtain⟨xk,xn,xt,xns,xts,xxs,xms,xp⟩:=xb;rw[TR.eE]at hxe hi;rw[TR.eP]at hxe hcp;obtain⟨a1,a2,a3,a4,a5,a6,a7,a8,a9⟩:=n0;obtain⟨b1,b2,b3,b4,b5,b6,b7,b8,b9⟩:=n1;dsimp only at hse hQ;subst hse
           cases hpb:mP q3.b a6 ⟨.mk pk pn pt pa,c⟩ with
           |none=>rw[hpb]at hQ;cases hQ
           |some B=>
            rw[hpb]at hQ;obtain⟨w,B2⟩:=B;dsimp only at hQ;have e1:=bM dc z.n.1 (⟨b1,b2,b3,b4,b5,some B2,b7,b8,b9⟩:Nd) q3.n.2
            cases a6 with
            |none=>
             have hB:=nJ hpb;cases hB;refine bO hxe (by omega) ?_;(conv=>whnf);refine bC dc hn0 rfl ?_;(conv=>whnf);refine jA hcp ?_;(conv=>whnf);refine bh [1000000000,1000000001,1000000002,1000000003] 400 hi ?_;(conv=>whnf);refine ag ⟨Nat.succ_pos _,Nat.le_of_ble_eq_true (by kernel_rfl)⟩ ?_;(conv=>whnf);refine bC dc hn1 rfl ?_;(conv=>whnf);refine ag (.inr ⟨[(4,11)],by kernel_rfl,⟨?_,trivial⟩⟩) ?_
             ·conv=>whnf
              refine⟨by kernel_rfl,?_⟩;refine bC dc hn1 rfl ?_;(conv=>whnf);rfl
             (conv=>whnf);refine⟨hj1,_,⟨?_,rfl,rfl,rfl⟩,hQ⟩;show _=List.map some [br.cells _,.store 160 true nS q3.n.1 9 (cC dc (aW z.n.1 (⟨b1,b2,b3,b4,b5,some (q3.b.1,1),b7,b8,b9⟩:Nd) q3.n.2)),_,_,_];rw[←e1];rfl
            |some p=>
             obtain⟨al,hal,hp1,hp2,hB⟩:=nI hpb;cases hB;have e2:=map_push Ql q3.b.1 p.1 p.2 al ⟨.mk pk pn pt pa,c⟩ q3.b.2;refine bO hxe (by omega) ?_;(conv=>whnf);refine bC dc hn0 rfl ?_;(conv=>whnf);refine jA hcp ?_;(conv=>whnf);refine bh [1000000000,1000000001,1000000002,1000000003] 400 hi ?_;(conv=>whnf);refine⟨rfl,_,aq hal,?_⟩;refine ag ⟨by unfold Fm;rw[List.length_map];exact hp1,Nat.le_trans (Nat.mul_le_mul_right _ (show p.2+1≤2000001 by omega)) (Nat.le_of_ble_eq_true (by kernel_rfl))⟩ ?_;(conv=>whnf);refine bC dc hn1 rfl ?_;(conv=>whnf);refine ag (.inr ⟨[(4,11)],by kernel_rfl,⟨?_,trivial⟩⟩) ?_
             ·conv=>whnf
              refine⟨by kernel_rfl,?_⟩;refine bC dc hn1 rfl ?_;(conv=>whnf);rfl
             (conv=>whnf);refine⟨hj1,_,⟨?_,rfl,rfl,rfl⟩,hQ⟩;show _=List.map some [br.cells _,.store 160 true nS q3.n.1 9 (cC dc (aW z.n.1 (⟨b1,b2,b3,b4,b5,some (q3.b.1,p.2+1),b7,b8,b9⟩:Nd) q3.n.2)),_,.store 169 false bS (q3.b.1+1) 5 (cC Fm ((q3.b.1,al.take p.2++[⟨.mk pk pn pt pa,c⟩])::gW p.1 q3.b.2)),_];rw[←e1,show cC Fm ((q3.b.1,al.take p.2++[⟨.mk pk pn pt pa,c⟩])::gW p.1 q3.b.2)=_ from e2.symm];rfl
      ·have h1:=cq h1 (by rw[hlm]) hj (by omega)
       subst h1;rw[List.drop_length,qS]at hQ;cases hQ;refine⟨.inl rfl,⟨s6,s6,s6,s6,trivial⟩⟩
end MN
end
section
open Go Go.AM Go.Proofs TK
set_option maxRecDepth 100000
namespace MN
theorem qc {α:Type} (enc:α→PV) (k:ByteArray) (v:α):∀es:TM α,bq k es=none→sr (.s k) (enc v) (jB enc es)=jB enc (es++[(k,v)])
 | [],_=>rfl
 |(a,x)::r,h=>by
  rw[bq]at h;show(match tc (.s k) (.s a) with|true=>_|false=>_)=_;have:tc (.s k) (.s a)=(k==a):=rfl;rw[this]
  cases hb:k==a with
  |true=>rw[hb]at h;cases h
  |false=>
   rw[hb]at h;dsimp only at h ⊢;show(PV.s a,enc x)::sr (.s k) (enc v) (jB enc r)=_;rw[qc enc k v r h];rfl
theorem B3 (sp nx k:Nat) (M:List (Nat×TM Cn)) (es:TM Cn) (key:ByteArray) (v:Cn) (hk:aK k M=some es):
 av Tryz.prog 24 [.p (.amp sp k),.p (.s key),.p (zu v)] [(1000000000,.store 77 true sp nx 0 (cC (bX zu) M))] (.cA []) [(1000000000,.store 77 true sp nx 0 (cC (bX zu) (aW k (firstT es key v) M)))]:=by
 have hlk:=fun d=>bQ zu key d es;unfold firstT
 cases hf:bq key es with
 |some x=>
  rw[hf]at hlk;obtain⟨x1,x2⟩:=x;obtain⟨v1,v2⟩:=v;dsimp only;rw[iu hk];refine av.intro (ah Tryz.prog) aC Tryz.func24 rfl (by rfl) (by kernel_rfl) (by show 3≤_;decide) rfl ?_;(conv=>whnf);refine ag ⟨rfl,rfl⟩ ?_;refine⟨jB zu es,aq (enc:=bX zu) hk,?_⟩;refine⟨_,_,hlk _,?_⟩;(conv=>whnf);refine⟨.inl rfl,⟨s6,trivial⟩⟩
 |none=>
  rw[hf]at hlk;have hmp:=qc zu key v es hf;have hse:=bM (bX zu) k (es++[(key,v)]) M;obtain⟨v1,v2⟩:=v;dsimp only;refine av.intro (ah Tryz.prog) aC Tryz.func24 rfl (by rfl) (by kernel_rfl) (by show 3≤_;decide) rfl ?_;(conv=>whnf);refine ag ⟨rfl,rfl⟩ ?_;refine⟨jB zu es,aq (enc:=bX zu) hk,?_⟩;refine⟨_,_,hlk _,?_⟩;(conv=>whnf);refine ag ⟨rfl,rfl⟩ ?_;refine⟨jB zu es,aq (enc:=bX zu) hk,?_⟩;(conv=>whnf);refine⟨.inl rfl,⟨⟨rfl,rfl,rfl,rfl,rfl,?_⟩,trivial⟩⟩;rw[←hse];unfold bX;rw[←hmp]
  all_goals rfl
theorem tI (sp nx k:Nat) (M:List (Nat×TM Fn)) (es:TM Fn) (key:ByteArray) (v:Fn) (hk:aK k M=some es):
 av Tryz.prog 26 [.p (.amp sp k),.p (.s key),.p (eFn v)] [(1000000000,.store 78 true sp nx 0 (cC (bX eFn) M))] (.cA []) [(1000000000,.store 78 true sp nx 0 (cC (bX eFn) (aW k (firstT es key v) M)))]:=by
 have hlk:=fun d=>bQ eFn key d es;unfold firstT
 cases hf:bq key es with
 |some x=>
  rw[hf]at hlk;obtain⟨x1,x2⟩:=x;obtain⟨v1,v2⟩:=v;dsimp only;rw[iu hk];refine av.intro (ah Tryz.prog) aC Tryz.func26 rfl (by rfl) (by kernel_rfl) (by show 3≤_;decide) rfl ?_;(conv=>whnf);refine ag ⟨rfl,rfl⟩ ?_;refine⟨jB eFn es,aq (enc:=bX eFn) hk,?_⟩;refine⟨_,_,hlk _,?_⟩;(conv=>whnf);refine⟨.inl rfl,⟨s6,trivial⟩⟩
 |none=>
  rw[hf]at hlk;have hmp:=qc eFn key v es hf;have hse:=bM (bX eFn) k (es++[(key,v)]) M;obtain⟨v1,v2⟩:=v;dsimp only;refine av.intro (ah Tryz.prog) aC Tryz.func26 rfl (by rfl) (by kernel_rfl) (by show 3≤_;decide) rfl ?_;(conv=>whnf);refine ag ⟨rfl,rfl⟩ ?_;refine⟨jB eFn es,aq (enc:=bX eFn) hk,?_⟩;refine⟨_,_,hlk _,?_⟩;(conv=>whnf);refine ag ⟨rfl,rfl⟩ ?_;refine⟨jB eFn es,aq (enc:=bX eFn) hk,?_⟩;(conv=>whnf);refine⟨.inl rfl,⟨⟨rfl,rfl,rfl,rfl,rfl,?_⟩,trivial⟩⟩;rw[←hse];unfold bX;rw[←hmp]
  all_goals rfl
theorem BV (sp nx k:Nat) (M:List (Nat×TM Fn)) (es:TM Fn) (key:ByteArray) (v:Fn) (hk:aK k M=some es):
 av Tryz.prog 28 [.p (.amp sp k),.p (.s key),.p (eFn v)] [(1000000000,.store 80 true sp nx 0 (cC (bX eFn) M))] (.cA []) [(1000000000,.store 80 true sp nx 0 (cC (bX eFn) (aW k (firstT es key v) M)))]:=by
 have hlk:=fun d=>bQ eFn key d es;unfold firstT
 cases hf:bq key es with
 |some x=>
  rw[hf]at hlk;obtain⟨x1,x2⟩:=x;obtain⟨v1,v2⟩:=v;dsimp only;rw[iu hk];refine av.intro (ah Tryz.prog) aC Tryz.func28 rfl (by rfl) (by kernel_rfl) (by show 3≤_;decide) rfl ?_;(conv=>whnf);refine ag ⟨rfl,rfl⟩ ?_;refine⟨jB eFn es,aq (enc:=bX eFn) hk,?_⟩;refine⟨_,_,hlk _,?_⟩;(conv=>whnf);refine⟨.inl rfl,⟨s6,trivial⟩⟩
 |none=>
  rw[hf]at hlk;have hmp:=qc eFn key v es hf;have hse:=bM (bX eFn) k (es++[(key,v)]) M;obtain⟨v1,v2⟩:=v;dsimp only;refine av.intro (ah Tryz.prog) aC Tryz.func28 rfl (by rfl) (by kernel_rfl) (by show 3≤_;decide) rfl ?_;(conv=>whnf);refine ag ⟨rfl,rfl⟩ ?_;refine⟨jB eFn es,aq (enc:=bX eFn) hk,?_⟩;refine⟨_,_,hlk _,?_⟩;(conv=>whnf);refine ag ⟨rfl,rfl⟩ ?_;refine⟨jB eFn es,aq (enc:=bX eFn) hk,?_⟩;(conv=>whnf);refine⟨.inl rfl,⟨⟨rfl,rfl,rfl,rfl,rfl,?_⟩,trivial⟩⟩;rw[←hse];unfold bX;rw[←hmp]
  all_goals rfl
theorem A2 (sp nx k:Nat) (M:List (Nat×TM ByteArray)) (es:TM ByteArray) (key:ByteArray) (v:ByteArray) (hk:aK k M=some es):
 av Tryz.prog 25 [.p (.amp sp k),.p (.s key),.p (PV.s v)] [(1000000000,.store 79 true sp nx 0 (cC (bX PV.s) M))] (.cA []) [(1000000000,.store 79 true sp nx 0 (cC (bX PV.s) (aW k (firstT es key v) M)))]:=by
 have hlk:=fun d=>bQ PV.s key d es;unfold firstT
 cases hf:bq key es with
 |some x=>
  rw[hf]at hlk
  skip
  skip
  dsimp only;rw[iu hk];refine av.intro (ah Tryz.prog) aC Tryz.func25 rfl (by rfl) (by kernel_rfl) (by show 3≤_;decide) rfl ?_;(conv=>whnf);refine ag ⟨rfl,rfl⟩ ?_;refine⟨jB PV.s es,aq (enc:=bX PV.s) hk,?_⟩;refine⟨_,_,hlk _,?_⟩;(conv=>whnf);refine⟨.inl rfl,⟨s6,trivial⟩⟩
 |none=>
  rw[hf]at hlk;have hmp:=qc PV.s key v es hf;have hse:=bM (bX PV.s) k (es++[(key,v)]) M
  skip
  dsimp only;refine av.intro (ah Tryz.prog) aC Tryz.func25 rfl (by rfl) (by kernel_rfl) (by show 3≤_;decide) rfl ?_;(conv=>whnf);refine ag ⟨rfl,rfl⟩ ?_;refine⟨jB PV.s es,aq (enc:=bX PV.s) hk,?_⟩;refine⟨_,_,hlk _,?_⟩;(conv=>whnf);refine ag ⟨rfl,rfl⟩ ?_;refine⟨jB PV.s es,aq (enc:=bX PV.s) hk,?_⟩;(conv=>whnf);refine⟨.inl rfl,⟨⟨rfl,rfl,rfl,rfl,rfl,?_⟩,trivial⟩⟩;rw[←hse];unfold bX;rw[←hmp]
  all_goals rfl
theorem CP (w:Mw) (f:TR.zU) (z:Ns) (R:Ns×Fn) (hF:HH f z=some R):
 av Tryz.prog 27 [.p (.bH mS w.m),.p (TR.cY f)] (hN w z) (.p (eFn R.2)) (hN w R.1):=by
 unfold HH at hF
 cases hb:Nat.ble f.ns.length 2000000 with
 |false=>rw[hb]at hF;cases hF
 |true=>
  rw[hb]at hF;dsimp only at hF
  cases hn:iR (TR.wE f.body) f.body z with
  |none=>rw[hn]at hF;cases hF
  |some Q=>
   rw[hn]at hF;cases hF;have c1:=TR.oO f.ns (by have:=Nat.le_of_ble_eq_true hb;omega);have c2:=uK _ w f.body z Q hn;obtain⟨fnm,fps,fns,fts,⟨tk,tn,ta⟩,⟨xk,xn,xt,xns,xts,xxs,xms,xp⟩⟩:=f;unfold hN at *;unfold TR.cY;dsimp only at *;rw[TR.eE]at c2;rw[TR.eE,TR.eT];refine av.intro (ah Tryz.prog) aC Tryz.func27 rfl (by rfl) (by kernel_rfl) (by show 2≤_;decide) rfl ?_;(conv=>whnf);refine jA c1 ?_;(conv=>whnf);refine bh [1000000000,1000000001,1000000002,1000000003] 400 c2 ?_;(conv=>whnf);refine ag (.inl (by kernel_rfl)) ?_;(conv=>whnf);refine⟨.inl rfl,⟨s6,s6,s6,s6,trivial⟩⟩
end MN
end
