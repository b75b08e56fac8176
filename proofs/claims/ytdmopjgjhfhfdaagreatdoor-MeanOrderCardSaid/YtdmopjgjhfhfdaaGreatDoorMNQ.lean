/- Contracts, and the law, for every input. No conditions. -/
import Derived.Test.YtdmopjgjhfhfdaaGreatDoorMNI
import Derived.Test.YtdmopjgjhfhfdaaGreatDoorTR1
import Derived.Test.YtdmopjgjhfhfdaaGreatDoorTR7
import Derived.Test.YtdmopjgjhfhfdaaGreatDoorMO7
open Go Go.AM Go.Proofs TK
set_option maxRecDepth 100000
namespace MN
structure Ns where
 n:Sto Nd
 a:Sto (List Nat)
 b:Sto (List Ar)
def sameBk:Option (Nat×Nat)→Option (Nat×Nat)→Bool
 |none,none=>true
 |some p,some q=>Nat.beq p.1 q.1&&Nat.beq p.2 q.2
 |_,_=>false
theorem sameBk_eq {x y:Option (Nat×Nat)} (h:sameBk x y=true):x=y:=by
 rcases x with _|⟨a,b⟩<;>rcases y with _|⟨c,d⟩
 ·rfl
 ·cases h
 ·cases h
 ·have h:(Nat.beq a c&&Nat.beq b d)=true:=h
  rw[Bool.and_eq_true]at h;rw[Nat.eq_of_beq_eq_true h.1,Nat.eq_of_beq_eq_true h.2]
def pushB {α:Type} (z:Sto (List α)) (q:Option (Nat×Nat)) (c:α):Option (Sto (List α)×(Nat×Nat)):=match q with
 |none=>some ((z.1+1,(z.1,[c])::z.2),(z.1,1))
 |some q=>match tlk q.1 z.2 with
  |none=>none
  |some l=>match Nat.ble q.2 l.length&&Nat.ble q.2 1000000 with
   |false=>none
   |true=>some ((z.1+1,(z.1,l.take q.2++[c])::tdel q.1 z.2),(z.1,q.2+1))
def argsG (g:TR.Ex→Ns→Option (Ns×Nat)) (k:Nat):List TR.Ex→Ns→Option Ns
 | [],z=>some z
 |e::r,z=>match tlk k z.n.2 with
  |none=>none
  |some n0=>match g e z with
   |none=>none
   |some (z2,c)=>match tlk k z2.n.2 with
    |none=>none
    |some n1=>match sameBk n0.args n1.args with
     |false=>none
     |true=>match pushB z2.a n0.args c with
      |none=>none
      |some (a3,q)=>argsG g k r ⟨(z2.n.1,tset k { n1 with args:=some q } z2.n.2),a3,z2.b⟩
def armsG (g:TR.Ex→Ns→Option (Ns×Nat)) (k:Nat):List TR.Arm→Ns→Option Ns
 | [],z=>some z
 |x::r,z=>match tlk k z.n.2 with
  |none=>none
  |some n0=>match g x.body z with
   |none=>none
   |some (z2,c)=>match tlk k z2.n.2 with
    |none=>none
    |some n1=>match sameBk n0.arms n1.arms&&Nat.ble (TR.wP x.pat) 1048576 with
     |false=>none
     |true=>match pushB z2.b n0.arms ⟨x.pat,c⟩ with
      |none=>none
      |some (b3,q)=>armsG g k r ⟨(z2.n.1,tset k { n1 with arms:=some q } z2.n.2),z2.a,b3⟩
def newNd (e:TR.Ex):Nd:=⟨e.kind,e.num,e.text,e.names,none,none,TR.needsF e.kind e.num e.args.length,0,[]⟩
def nodeG:Nat→TR.Ex→Ns→Option (Ns×Nat)
 |0,_,_=>none
 |n+1,e,z=>match (e.kind==10)||!(Nat.ble e.args.length 1000000&&(Nat.ble e.arms.length 1000000&&Nat.ble e.names.length 1000000)) with
  |true=>none
  |false=>match argsG (nodeG n) z.n.1 e.args ⟨(z.n.1+1,(z.n.1,newNd e)::z.n.2),z.a,z.b⟩ with
   |none=>none
   |some z2=>match armsG (nodeG n) z.n.1 e.arms z2 with
    |none=>none
    |some z3=>some (z3,z.n.1)
def firstT {α:Type} (es:TM α) (k:ByteArray) (v:α):TM α:=match tfind k es with
 |some _=>es
 |none=>es++[(k,v)]
def makesL (d:ByteArray):List TR.LMk→TM Cn→TM Cn
 | [],es=>es
 |x::r,es=>makesL d r (firstT es x.name ⟨d,x.ts.length⟩)
def datasL:List TR.LDt→TM Cn→TM Cn
 | [],es=>es
 |d::r,es=>datasL r (makesL d.name d.makes es)
def trFuns (t:ByteArray):List TR.LFu→TM ByteArray→TM ByteArray
 | [],es=>es
 |f::r,es=>trFuns t r (firstT es f.name t)
def traitsL:List TR.LTr→TM ByteArray→TM ByteArray
 | [],es=>es
 |t::r,es=>traitsL r (trFuns t.name t.funcs es)
def funG (f:TR.LFu) (z:Ns):Option (Ns×Fn):=match Nat.ble f.ns.length 1000000 with
 |false=>none
 |true=>match nodeG 50 f.body z with
  |none=>none
  |some (z2,k)=>some (z2,⟨f.ns,k⟩)
def acG (f:TR.LAc) (z:Ns):Option (Ns×Fn):=match Nat.ble f.ns.length 1000000 with
 |false=>none
 |true=>match nodeG 50 f.body z with
  |none=>none
  |some (z2,k)=>some (z2,⟨f.ns,k⟩)
def funsL:List TR.LFu→Ns→TM Fn→Option (Ns×TM Fn)
 | [],z,es=>some (z,es)
 |f::r,z,es=>match funG f z with
  |none=>none
  |some (z2,x)=>funsL r z2 (firstT es f.name x)
def actorsL:List TR.LAc→Ns→TM Fn→Option (Ns×TM Fn)
 | [],z,es=>some (z,es)
 |f::r,z,es=>match acG f z with
  |none=>none
  |some (z2,x)=>actorsL r z2 (firstT es f.name x)
def implsL:List TR.LIm→Ns→Sto (TM Fn)→Sto (List Im)→Option (Nat×Nat)→Option (Ns×Sto (TM Fn)×Sto (List Im)×Option (Nat×Nat))
 | [],z,m,i,q=>some (z,m,i,q)
 |x::r,z,m,i,q=>match funsL x.funcs z [] with
  |none=>none
  |some (z2,es)=>match pushB i q ⟨x.tr,x.fo,m.1⟩ with
   |none=>none
   |some (i2,q2)=>implsL r z2 (m.1+1,(m.1,es)::m.2) i2 (some q2)
def okPg (p:TR.LPg):Bool:=Nat.ble p.datas.length 1000000&&(p.datas.all (fun d=>Nat.ble d.makes.length 1000000)&&(Nat.ble p.traits.length 1000000&&(p.traits.all (fun t=>Nat.ble t.funcs.length 1000000)&&(Nat.ble p.impls.length 1000000&&(p.impls.all (fun t=>Nat.ble t.funcs.length 1000000)&&(Nat.ble p.funcs.length 1000000&&Nat.ble p.actors.length 1000000))))))
def kS (K:Ks) (z:Ns) (mk:Mk) (cs:TM Cn) (mf:Sto (TM Fn)) (ts:TM ByteArray) (im:Sto (List Im)) (acs:TM Fn):Ks:=
 ⟨z.n,z.a,z.b,(K.mm.1+1,(K.mm.1,mk)::K.mm.2),(K.mc.1+1,(K.mc.1,cs)::K.mc.2),mf,(K.mt.1+1,(K.mt.1,ts)::K.mt.2),im,(K.ma.1+1,(K.ma.1,acs)::K.ma.2)⟩
def mk0 (K:Ks) (q:Option (Nat×Nat)):Mk:=⟨none,K.mc.1,K.mf.1,K.mt.1,q,K.ma.1⟩
def newF (p:TR.LPg) (K:Ks):Option Ks:=match okPg p with
 |false=>none
 |true=>match implsL p.impls ⟨K.n,K.a,K.b⟩ (K.mf.1+1,(K.mf.1,[])::K.mf.2) K.im none with
  |none=>none
  |some (z1,mf1,im1,q)=>match tlk K.mf.1 mf1.2 with
   |none=>none
   |some es0=>match funsL p.funcs z1 es0 with
    |none=>none
    |some (z2,fs)=>match actorsL p.actors z2 [] with
     |none=>none
     |some (z3,acs)=>some (kS K z3 (mk0 K q) (datasL p.datas []) (mf1.1,tset K.mf.1 fs mf1.2) (traitsL p.traits []) im1 acs)
end MN
open Go Go.AM Go.Proofs
set_option maxRecDepth 100000
namespace TR
theorem cloneM_spec (l:List ByteArray) (h:l.length≤2097152):APure Tryz.prog 29 [.p (.sl 1 (l.map eStr))] (.so 1 (l.map eStr)):=by
 cases l with
 |nil=>
  refine APure.nilOrNot (pre:=[]) (post:=[]) (sz:=1) ?_ ?_
  ·refine APure.intro (tyOf_ok Tryz.prog) hmix Tryz.func29 rfl (by rfl) (by kernel_rfl) (by show 1≤_;decide) rfl ?_
   (conv=>whnf);exact .inl rfl
  ·refine APure.intro (tyOf_ok Tryz.prog) hmix Tryz.func29 rfl (by rfl) (by kernel_rfl) (by show 1≤_;decide) rfl ?_
   (conv=>whnf);refine aneed (by decide) ?_;(conv=>whnf);exact .inl rfl
 |cons a r=>
  refine APure.intro (tyOf_ok Tryz.prog) hmix Tryz.func29 rfl (by rfl) (by kernel_rfl) (by show 1≤_;decide) rfl ?_;(conv=>whnf);refine aneed (show(([]:List PV).length+((a::r).map eStr).length)*16≤140737488355328 by simp at h ⊢;omega) ?_;(conv=>whnf);exact .inl rfl
theorem eachPt_spec (g:Pt→Pt) (f:Nat) (l:List Pt) (hl:l.length≤1048576) (h:∀x∈l,APure Tryz.prog f [.p (eP x)] (.p (eP (g x)))):APure Tryz.prog 77 [.p (.sl 4 (ePs l)),.fn f [] []] (.p (.sl 4 (ePs (l.map g)))):=by
 refine APure.intro (tyOf_ok Tryz.prog) hmix Tryz.func77 rfl (by rfl) (by kernel_rfl) (by show 2≤_;decide) rfl ?_;(conv=>whnf);refine lp_nil 5 3 rfl ?_;refine loopS (tyOf_ok _) hmix (by kernel_rfl) l.length [1,5,8,9,10] [] (fun k (s:List Pt)=>[.fn f [] [],.so 4 (ePs s),.p (.sl 4 (ePs l)),.p (.i .i64 (ePs l).length),.p (.i .i64 (ix k))]) (fun _ _=>[]) (fun k s=>s=(l.take k).map g) [] ⟨rfl,rfl,rfl,rfl⟩ (by simp) ?_;intro k s hk hs;have hsl:s.length≤1048576:=by rw[hs];simp;omega
 (conv=>whnf);refine asplit ?_ ?_<;>intro h1<;>conv=>whnf
 ·have hk1:=ix_tt h1 (by rw[ePs_len]) hk (by omega)
  obtain⟨b,hb1⟩:∃b,l[k]?=some b:=⟨_,List.getElem?_eq_getElem hk1⟩
  refine aidxk (ePs_get hb1) (by omega) ?_;have hc:=h b (List.mem_of_getElem? hb1);have hts:(l.take (k+1)).map g=s++[g b]:=by rw[take_snoc hb1,List.map_append,hs];rfl
  generalize g b=c at hc hts;obtain⟨b1,b2,b3,b4⟩:=b;obtain⟨c1,c2,c3,c4⟩:=c;(conv=>whnf);refine apc hc ?_;(conv=>whnf);refine aneed (show((ePs s).length+1)*56≤140737488355328 by rw[ePs_len];omega) ?_;(conv=>whnf);refine⟨hk1,_,⟨rfl,?_,rfl,rfl⟩,hts.symm⟩;rw[ePs_app];rfl
 ·have hk1:=ix_ff h1 (by rw[ePs_len]) hk (by omega)
  have hs2:s=l.map g:=by rw[hs,hk1,List.take_length]
  subst hs2;exact .inr (.inl rfl)
theorem patC_spec (t:Pt):wP t≤1048576→APure Tryz.prog 47 [.p (eP t)] (.p (eP t)):=by
 induction t using Pt.ind with
 |h k0 n0 t0 as0 ih=>
 intro hw;have h1:=wP_mk k0 n0 t0 as0;have h2:=wPs_len as0;have hm:=eachPt_spec (fun x=>x) 47 as0 (by omega) (fun x hx=>ih x hx (by have:=wPs_mem hx;omega));rw[List.map_id']at hm;refine APure.intro (tyOf_ok Tryz.prog) hmix Tryz.func47 rfl (by rfl) (by kernel_rfl) (by show 1≤_;decide) rfl ?_;(conv=>whnf);refine apc hm ?_;(conv=>whnf);exact .inl rfl
end TR
open Go Go.AM Go.Proofs TK
set_option maxRecDepth 100000
namespace MN
def hN (z:Ns):Heap:=[(1000000000,hNd z.n),(1000000001,hAr z.a),(1000000002,hBr z.b)]
noncomputable def tyNo:Nat→Option TI:=hint (hint (hint (hintZ (tyOf Tryz.prog) 160 [1,1,1,1,0,0,1,1,1]) 160 [1000022]) 81 [1000071]) 158 [1000096]
theorem tyNo_ok:TyOK Tryz.prog tyNo:=((((tyOf_ok Tryz.prog).hintZ _ _).hint _ _).hint _ _).hint _ _
theorem map_push {α:Type} (g:α→PV) (nx g1 g2:Nat) (l:List α) (x:α) (M:List (Nat×List α)):(nx,(l.map g).take g2++[g x])::sdel g1 (enM (fun l=>l.map g) M)=enM (fun l=>l.map g) ((nx,l.take g2++[x])::tdel g1 M):=by
 rw[enM,sdel_en];simp[List.map_take]
theorem pushB_none {α:Type} {z:Sto (List α)} {c:α} {R:Sto (List α)×(Nat×Nat)} (h:pushB z none c=some R):R=((z.1+1,(z.1,[c])::z.2),(z.1,1)):=by cases h;rfl
theorem pushB_some {α:Type} {z:Sto (List α)} {q:Nat×Nat} {c:α} {R:Sto (List α)×(Nat×Nat)} (h:pushB z (some q) c=some R):∃l,tlk q.1 z.2=some l∧q.2≤l.length∧q.2≤1000000∧R=((z.1+1,(z.1,l.take q.2++[c])::tdel q.1 z.2),(z.1,q.2+1)):=by
 unfold pushB at h;dsimp only at h
 cases hl:tlk q.1 z.2 with
 |none=>rw[hl]at h;cases h
 |some l=>
  rw[hl]at h;dsimp only at h
  cases hg:Nat.ble q.2 l.length&&Nat.ble q.2 1000000 with
  |false=>rw[hg]at h;cases h
  |true=>
   rw[hg]at h;rw[Bool.and_eq_true]at hg;cases h;exact⟨l,rfl,Nat.le_of_ble_eq_true hg.1,Nat.le_of_ble_eq_true hg.2,rfl⟩
theorem node_spec:∀(n:Nat) (m:Nat) (e:TR.Ex) (z:Ns) (R:Ns×Nat),nodeG n e z=some R→
 AMem Tryz.prog 30 [.p (.adr mS m),.p (TR.eE e)] (hN z) (.p (.adr nS R.2)) (hN R.1)
 |0,_,_,_,_,hF=>by cases hF
 |n+1,m,e,z,R,hF=>by
  have ih:=node_spec n m;unfold nodeG at hF
  cases hg:(e.kind==10)||!(Nat.ble e.args.length 1000000&&(Nat.ble e.arms.length 1000000&&Nat.ble e.names.length 1000000)) with
  |true=>rw[hg]at hF;cases hF
  |false=>
   rw[hg]at hF;dsimp only at hF;rw[Bool.or_eq_false_iff]at hg;have hg2:(Nat.ble e.args.length 1000000&&(Nat.ble e.arms.length 1000000&&Nat.ble e.names.length 1000000))=true:=by simpa using hg.2
   rw[Bool.and_eq_true,Bool.and_eq_true]at hg2;have g1:=Nat.le_of_ble_eq_true hg2.1;have g2:=Nat.le_of_ble_eq_true hg2.2.1;have g3:=Nat.le_of_ble_eq_true hg2.2.2;have hk10:=hg.1
   cases ha:argsG (nodeG n) z.n.1 e.args ⟨(z.n.1+1,(z.n.1,newNd e)::z.n.2),z.a,z.b⟩ with
   |none=>rw[ha]at hF;cases hF
   |some z2=>
    rw[ha]at hF;dsimp only at hF
    cases hm:armsG (nodeG n) z.n.1 e.arms z2 with
    |none=>rw[hm]at hF;cases hF
    |some z3=>
     rw[hm]at hF;cases hF;have hcl:=TR.cloneM_spec e.names (by omega);have hnd:=TR.needs_spec e;obtain⟨ek,en,et,ens,ets,exs,ems,ep⟩:=e;unfold newNd at ha;simp only[TR.Ex.kind,TR.Ex.num,TR.Ex.text,TR.Ex.names,TR.Ex.args,TR.Ex.arms]at ha hm hcl hnd hk10 g1 g2 g3;rw[TR.eE]at hnd ⊢;unfold hN hNd hAr hBr at *;have hlx:(TR.eEs exs).length=exs.length:=TR.eEs_len exs;have hlm:(TR.eAs ems).length=ems.length:=TR.eAs_len ems;refine AMem.intro tyNo_ok hmix Tryz.func30 rfl (by rfl) (by kernel_rfl) (by show 2≤_;decide) rfl ?_;(conv=>whnf);refine apc hcl ?_;(conv=>whnf);refine apc hnd ?_;(conv=>whnf);refine aneed (.inl (by kernel_rfl)) ?_;(conv=>whnf);refine asf hk10 ?_;(conv=>whnf);refine loopS (tyOf_ok _) hmix (by kernel_rfl) exs.length [0,3,5,56,57,58] [3,1000000000,1000000001,1000000002] (fun j (_:Ns)=>[.p (.adr mS m),.ptr 3 0,.p (.adr nS z.n.1),.p (.sl 8 (TR.eEs exs)),.p (.i .i64 (TR.eEs exs).length),.p (.i .i64 (ix j))]) (fun _ q=>[.cells [.p (.i .i64 ek),.p (.i .i64 en),.p (.s et),.p (.sl 1 (ens.map TR.eStr)),.p (.sl 3 (TR.eTs ets)),.p (.sl 8 (TR.eEs exs)),.p (.sl 12 (TR.eAs ems)),.p (.i .i64 ep)],hNd q.n,hAr q.a,hBr q.b]) (fun j q=>argsG (nodeG n) z.n.1 (exs.drop j) q=some z2) ⟨(z.n.1+1,(z.n.1,⟨ek,en,et,ens,none,none,TR.needsF ek en exs.length,0,[]⟩)::z.n.2),z.a,z.b⟩ ⟨rfl,rfl,rfl,rfl⟩ ha ?_;intro j q hj hQ
     try dsimp only at hQ
     (conv=>whnf);refine asplit ?_ ?_<;>intro h1<;>conv=>whnf
     ·have hj1:=ix_tt h1 (by rw[hlx]) hj (by omega)
      obtain⟨x,hx⟩:∃x,exs[j]?=some x:=⟨_,List.getElem?_eq_getElem hj1⟩
      rw[drop_cons hx,argsG]at hQ
      cases hn0:tlk z.n.1 q.n.2 with
      |none=>rw[hn0]at hQ;cases hQ
      |some n0=>
       rw[hn0]at hQ;dsimp only at hQ
       cases hr:nodeG n x q with
       |none=>rw[hr]at hQ;cases hQ
       |some P=>
        rw[hr]at hQ;have hi:=ih x q P hr;obtain⟨q3,c⟩:=P;dsimp only at hQ hi
        cases hn1:tlk z.n.1 q3.n.2 with
        |none=>rw[hn1]at hQ;cases hQ
        |some n1=>
         rw[hn1]at hQ;dsimp only at hQ
         cases hsb:sameBk n0.args n1.args with
         |false=>rw[hsb]at hQ;cases hQ
         |true=>
          rw[hsb]at hQ;dsimp only at hQ;have hsb:=sameBk_eq hsb;have hxe:=TR.eEs_get hx;obtain⟨xk,xn,xt,xns,xts,xxs,xms,xp⟩:=x;rw[TR.eE]at hxe hi;obtain⟨a1,a2,a3,a4,a5,a6,a7,a8,a9⟩:=n0;obtain⟨b1,b2,b3,b4,b5,b6,b7,b8,b9⟩:=n1;dsimp only at hsb hQ;subst hsb
          cases hpb:pushB q3.a a5 c with
          |none=>rw[hpb]at hQ;cases hQ
          |some B=>
           rw[hpb]at hQ;obtain⟨w,B2⟩:=B;dsimp only at hQ;have e1:=sset_en eNd z.n.1 (⟨b1,b2,b3,b4,some B2,b6,b7,b8,b9⟩:Nd) q3.n.2
           cases a5 with
           |none=>
            have hB:=pushB_none hpb;cases hB;refine aidxk hxe (by omega) ?_;(conv=>whnf);refine lpe eNd hn0 rfl ?_;(conv=>whnf);refine amc [1000000000,1000000001,1000000002] 400 hi ?_;(conv=>whnf);refine aneed ⟨Nat.succ_pos _,Nat.le_of_ble_eq_true (by kernel_rfl)⟩ ?_;(conv=>whnf);refine lpe eNd hn1 rfl ?_;(conv=>whnf);refine aneed (.inr ⟨[(4,7)],by kernel_rfl,⟨?_,trivial⟩⟩) ?_
            ·conv=>whnf
             refine⟨by kernel_rfl,?_⟩;refine lpe eNd hn1 rfl ?_;(conv=>whnf);rfl
            (conv=>whnf);refine⟨hj1,_,⟨?_,rfl,rfl,rfl⟩,hQ⟩;show _=List.map some [AObj.cells _,.store 160 true nS q3.n.1 9 (enM eNd (tset z.n.1 (⟨b1,b2,b3,b4,some (q3.a.1,1),b6,b7,b8,b9⟩:Nd) q3.n.2)),_,_];rw[←e1];rfl
           |some p=>
            obtain⟨al,hal,hp1,hp2,hB⟩:=pushB_some hpb;cases hB;have e2:=map_push (PV.adr nS) q3.a.1 p.1 p.2 al c q3.a.2;refine aidxk hxe (by omega) ?_;(conv=>whnf);refine lpe eNd hn0 rfl ?_;(conv=>whnf);refine amc [1000000000,1000000001,1000000002] 400 hi ?_;(conv=>whnf);refine⟨rfl,_,slk_in hal,?_⟩;refine aneed ⟨by unfold eKs;rw[List.length_map];exact hp1,Nat.le_trans (Nat.mul_le_mul_right _ (show p.2+1≤1000001 by omega)) (Nat.le_of_ble_eq_true (by kernel_rfl))⟩ ?_;(conv=>whnf);refine lpe eNd hn1 rfl ?_;(conv=>whnf);refine aneed (.inr ⟨[(4,7)],by kernel_rfl,⟨?_,trivial⟩⟩) ?_
            ·conv=>whnf
             refine⟨by kernel_rfl,?_⟩;refine lpe eNd hn1 rfl ?_;(conv=>whnf);rfl
            (conv=>whnf);refine⟨hj1,_,⟨?_,rfl,rfl,rfl⟩,hQ⟩;show _=List.map some [AObj.cells _,.store 160 true nS q3.n.1 9 (enM eNd (tset z.n.1 (⟨b1,b2,b3,b4,some (q3.a.1,p.2+1),b6,b7,b8,b9⟩:Nd) q3.n.2)),.store 110 false aS (q3.a.1+1) 1 (enM eKs ((q3.a.1,al.take p.2++[c])::tdel p.1 q3.a.2)),_];rw[←e1,show enM eKs ((q3.a.1,al.take p.2++[c])::tdel p.1 q3.a.2)=_ from e2.symm];rfl
     ·have h1:=ix_ff h1 (by rw[hlx]) hj (by omega)
      subst h1;rw[List.drop_length,argsG]at hQ;cases hQ;(conv=>whnf);refine loopS (tyOf_ok _) hmix (by kernel_rfl) ems.length [0,3,5,76,77,78] [3,1000000000,1000000001,1000000002] (fun j (_:Ns)=>[.p (.adr mS m),.ptr 3 0,.p (.adr nS z.n.1),.p (.sl 12 (TR.eAs ems)),.p (.i .i64 (TR.eAs ems).length),.p (.i .i64 (ix j))]) (fun _ q=>[.cells [.p (.i .i64 ek),.p (.i .i64 en),.p (.s et),.p (.sl 1 (ens.map TR.eStr)),.p (.sl 3 (TR.eTs ets)),.p (.sl 8 (TR.eEs exs)),.p (.sl 12 (TR.eAs ems)),.p (.i .i64 ep)],hNd q.n,hAr q.a,hBr q.b]) (fun j q=>armsG (nodeG n) z.n.1 (ems.drop j) q=some z3) z2 ⟨rfl,rfl,rfl,rfl⟩ hm ?_;intro j q hj hQ
      try dsimp only at hQ
      (conv=>whnf);refine asplit ?_ ?_<;>intro h1<;>conv=>whnf
      ·have hj1:=ix_tt h1 (by rw[hlm]) hj (by omega)
       obtain⟨x,hx⟩:∃x,ems[j]?=some x:=⟨_,List.getElem?_eq_getElem hj1⟩
       rw[drop_cons hx,armsG]at hQ
       cases hn0:tlk z.n.1 q.n.2 with
       |none=>rw[hn0]at hQ;cases hQ
       |some n0=>
        rw[hn0]at hQ;dsimp only at hQ
        cases hr:nodeG n x.body q with
        |none=>rw[hr]at hQ;cases hQ
        |some P=>
         rw[hr]at hQ;have hi:=ih x.body q P hr;obtain⟨q3,c⟩:=P;dsimp only at hQ hi
         cases hn1:tlk z.n.1 q3.n.2 with
         |none=>rw[hn1]at hQ;cases hQ
         |some n1=>
          rw[hn1]at hQ;dsimp only at hQ
          cases hsb:sameBk n0.arms n1.arms&&Nat.ble (TR.wP x.pat) 1048576 with
          |false=>rw[hsb]at hQ;cases hQ
          |true=>
           rw[hsb]at hQ;dsimp only at hQ;rw[Bool.and_eq_true]at hsb;have hwp:=Nat.le_of_ble_eq_true hsb.2;have hse:=sameBk_eq hsb.1;clear hsb;have hxe:=TR.eAs_get hx;have hcp:=TR.patC_spec x.pat hwp;obtain⟨xpt,xb⟩:=x;dsimp only[TR.Arm.pat,TR.Arm.body]at hi hcp hQ;rw[TR.eA]at hxe;obtain⟨pk,pn,pt,pa⟩:=xpt;obtain⟨xk,xn,xt,xns,xts,xxs,xms,xp⟩:=xb;rw[TR.eE]at hxe hi;rw[TR.eP]at hxe hcp;obtain⟨a1,a2,a3,a4,a5,a6,a7,a8,a9⟩:=n0;obtain⟨b1,b2,b3,b4,b5,b6,b7,b8,b9⟩:=n1;dsimp only at hse hQ;subst hse
           cases hpb:pushB q3.b a6 ⟨.mk pk pn pt pa,c⟩ with
           |none=>rw[hpb]at hQ;cases hQ
           |some B=>
            rw[hpb]at hQ;obtain⟨w,B2⟩:=B;dsimp only at hQ;have e1:=sset_en eNd z.n.1 (⟨b1,b2,b3,b4,b5,some B2,b7,b8,b9⟩:Nd) q3.n.2
            cases a6 with
            |none=>
             have hB:=pushB_none hpb;cases hB;refine aidxk hxe (by omega) ?_;(conv=>whnf);refine lpe eNd hn0 rfl ?_;(conv=>whnf);refine apc hcp ?_;(conv=>whnf);refine amc [1000000000,1000000001,1000000002] 400 hi ?_;(conv=>whnf);refine aneed ⟨Nat.succ_pos _,Nat.le_of_ble_eq_true (by kernel_rfl)⟩ ?_;(conv=>whnf);refine lpe eNd hn1 rfl ?_;(conv=>whnf);refine aneed (.inr ⟨[(4,11)],by kernel_rfl,⟨?_,trivial⟩⟩) ?_
             ·conv=>whnf
              refine⟨by kernel_rfl,?_⟩;refine lpe eNd hn1 rfl ?_;(conv=>whnf);rfl
             (conv=>whnf);refine⟨hj1,_,⟨?_,rfl,rfl,rfl⟩,hQ⟩;show _=List.map some [AObj.cells _,.store 160 true nS q3.n.1 9 (enM eNd (tset z.n.1 (⟨b1,b2,b3,b4,b5,some (q3.b.1,1),b7,b8,b9⟩:Nd) q3.n.2)),_,_];rw[←e1];rfl
            |some p=>
             obtain⟨al,hal,hp1,hp2,hB⟩:=pushB_some hpb;cases hB;have e2:=map_push eAr q3.b.1 p.1 p.2 al ⟨.mk pk pn pt pa,c⟩ q3.b.2;refine aidxk hxe (by omega) ?_;(conv=>whnf);refine lpe eNd hn0 rfl ?_;(conv=>whnf);refine apc hcp ?_;(conv=>whnf);refine amc [1000000000,1000000001,1000000002] 400 hi ?_;(conv=>whnf);refine⟨rfl,_,slk_in hal,?_⟩;refine aneed ⟨by unfold eArs;rw[List.length_map];exact hp1,Nat.le_trans (Nat.mul_le_mul_right _ (show p.2+1≤1000001 by omega)) (Nat.le_of_ble_eq_true (by kernel_rfl))⟩ ?_;(conv=>whnf);refine lpe eNd hn1 rfl ?_;(conv=>whnf);refine aneed (.inr ⟨[(4,11)],by kernel_rfl,⟨?_,trivial⟩⟩) ?_
             ·conv=>whnf
              refine⟨by kernel_rfl,?_⟩;refine lpe eNd hn1 rfl ?_;(conv=>whnf);rfl
             (conv=>whnf);refine⟨hj1,_,⟨?_,rfl,rfl,rfl⟩,hQ⟩;show _=List.map some [AObj.cells _,.store 160 true nS q3.n.1 9 (enM eNd (tset z.n.1 (⟨b1,b2,b3,b4,b5,some (q3.b.1,p.2+1),b7,b8,b9⟩:Nd) q3.n.2)),_,.store 169 false bS (q3.b.1+1) 5 (enM eArs ((q3.b.1,al.take p.2++[⟨.mk pk pn pt pa,c⟩])::tdel p.1 q3.b.2))];rw[←e1,show enM eArs ((q3.b.1,al.take p.2++[⟨.mk pk pn pt pa,c⟩])::tdel p.1 q3.b.2)=_ from e2.symm];rfl
      ·have h1:=ix_ff h1 (by rw[hlm]) hj (by omega)
       subst h1;rw[List.drop_length,armsG]at hQ;cases hQ;refine⟨.inl rfl,⟨s6,s6,s6,trivial⟩⟩
end MN
open Go Go.AM Go.Proofs TK
set_option maxRecDepth 100000
namespace MN
theorem mput_new {α:Type} (enc:α→PV) (k:ByteArray) (v:α):∀es:TM α,tfind k es=none→mput (.s k) (enc v) (eTM enc es)=eTM enc (es++[(k,v)])
 | [],_=>rfl
 |(a,x)::r,h=>by
  rw[tfind]at h;show(match pvEq (.s k) (.s a) with|true=>_|false=>_)=_;have:pvEq (.s k) (.s a)=(k==a):=rfl;rw[this]
  cases hb:k==a with
  |true=>rw[hb]at h;cases h
  |false=>
   rw[hb]at h;dsimp only at h ⊢;show(PV.s a,enc x)::mput (.s k) (enc v) (eTM enc r)=_;rw[mput_new enc k v r h];rfl
theorem firstCn_spec (sp nx k:Nat) (M:List (Nat×TM Cn)) (es:TM Cn) (key:ByteArray) (v:Cn) (hk:tlk k M=some es):
 AMem Tryz.prog 24 [.p (.amp sp k),.p (.s key),.p (eCn v)] [(1000000000,.store 77 true sp nx 0 (enM (eTM2 eCn) M))] (.tup []) [(1000000000,.store 77 true sp nx 0 (enM (eTM2 eCn) (tset k (firstT es key v) M)))]:=by
 have hlk:=fun d=>tfind_look eCn key d es;unfold firstT
 cases hf:tfind key es with
 |some x=>
  rw[hf]at hlk;obtain⟨x1,x2⟩:=x;obtain⟨v1,v2⟩:=v;dsimp only;rw[tlk_id hk];refine AMem.intro (tyOf_ok Tryz.prog) hmix Tryz.func24 rfl (by rfl) (by kernel_rfl) (by show 3≤_;decide) rfl ?_;(conv=>whnf);refine aneed ⟨rfl,rfl⟩ ?_;refine⟨eTM eCn es,slk_in (enc:=eTM2 eCn) hk,?_⟩;refine⟨_,_,hlk _,?_⟩;(conv=>whnf);refine⟨.inl rfl,⟨s6,trivial⟩⟩
 |none=>
  rw[hf]at hlk;have hmp:=mput_new eCn key v es hf;have hse:=sset_en (eTM2 eCn) k (es++[(key,v)]) M;obtain⟨v1,v2⟩:=v;dsimp only;refine AMem.intro (tyOf_ok Tryz.prog) hmix Tryz.func24 rfl (by rfl) (by kernel_rfl) (by show 3≤_;decide) rfl ?_;(conv=>whnf);refine aneed ⟨rfl,rfl⟩ ?_;refine⟨eTM eCn es,slk_in (enc:=eTM2 eCn) hk,?_⟩;refine⟨_,_,hlk _,?_⟩;(conv=>whnf);refine aneed ⟨rfl,rfl⟩ ?_;refine⟨eTM eCn es,slk_in (enc:=eTM2 eCn) hk,?_⟩;(conv=>whnf);refine⟨.inl rfl,⟨⟨rfl,rfl,rfl,rfl,rfl,?_⟩,trivial⟩⟩;rw[←hse];unfold eTM2;rw[←hmp]
  all_goals rfl
theorem firstFn_spec (sp nx k:Nat) (M:List (Nat×TM Fn)) (es:TM Fn) (key:ByteArray) (v:Fn) (hk:tlk k M=some es):
 AMem Tryz.prog 26 [.p (.amp sp k),.p (.s key),.p (eFn v)] [(1000000000,.store 78 true sp nx 0 (enM (eTM2 eFn) M))] (.tup []) [(1000000000,.store 78 true sp nx 0 (enM (eTM2 eFn) (tset k (firstT es key v) M)))]:=by
 have hlk:=fun d=>tfind_look eFn key d es;unfold firstT
 cases hf:tfind key es with
 |some x=>
  rw[hf]at hlk;obtain⟨x1,x2⟩:=x;obtain⟨v1,v2⟩:=v;dsimp only;rw[tlk_id hk];refine AMem.intro (tyOf_ok Tryz.prog) hmix Tryz.func26 rfl (by rfl) (by kernel_rfl) (by show 3≤_;decide) rfl ?_;(conv=>whnf);refine aneed ⟨rfl,rfl⟩ ?_;refine⟨eTM eFn es,slk_in (enc:=eTM2 eFn) hk,?_⟩;refine⟨_,_,hlk _,?_⟩;(conv=>whnf);refine⟨.inl rfl,⟨s6,trivial⟩⟩
 |none=>
  rw[hf]at hlk;have hmp:=mput_new eFn key v es hf;have hse:=sset_en (eTM2 eFn) k (es++[(key,v)]) M;obtain⟨v1,v2⟩:=v;dsimp only;refine AMem.intro (tyOf_ok Tryz.prog) hmix Tryz.func26 rfl (by rfl) (by kernel_rfl) (by show 3≤_;decide) rfl ?_;(conv=>whnf);refine aneed ⟨rfl,rfl⟩ ?_;refine⟨eTM eFn es,slk_in (enc:=eTM2 eFn) hk,?_⟩;refine⟨_,_,hlk _,?_⟩;(conv=>whnf);refine aneed ⟨rfl,rfl⟩ ?_;refine⟨eTM eFn es,slk_in (enc:=eTM2 eFn) hk,?_⟩;(conv=>whnf);refine⟨.inl rfl,⟨⟨rfl,rfl,rfl,rfl,rfl,?_⟩,trivial⟩⟩;rw[←hse];unfold eTM2;rw[←hmp]
  all_goals rfl
theorem firstAc_spec (sp nx k:Nat) (M:List (Nat×TM Fn)) (es:TM Fn) (key:ByteArray) (v:Fn) (hk:tlk k M=some es):
 AMem Tryz.prog 28 [.p (.amp sp k),.p (.s key),.p (eFn v)] [(1000000000,.store 80 true sp nx 0 (enM (eTM2 eFn) M))] (.tup []) [(1000000000,.store 80 true sp nx 0 (enM (eTM2 eFn) (tset k (firstT es key v) M)))]:=by
 have hlk:=fun d=>tfind_look eFn key d es;unfold firstT
 cases hf:tfind key es with
 |some x=>
  rw[hf]at hlk;obtain⟨x1,x2⟩:=x;obtain⟨v1,v2⟩:=v;dsimp only;rw[tlk_id hk];refine AMem.intro (tyOf_ok Tryz.prog) hmix Tryz.func28 rfl (by rfl) (by kernel_rfl) (by show 3≤_;decide) rfl ?_;(conv=>whnf);refine aneed ⟨rfl,rfl⟩ ?_;refine⟨eTM eFn es,slk_in (enc:=eTM2 eFn) hk,?_⟩;refine⟨_,_,hlk _,?_⟩;(conv=>whnf);refine⟨.inl rfl,⟨s6,trivial⟩⟩
 |none=>
  rw[hf]at hlk;have hmp:=mput_new eFn key v es hf;have hse:=sset_en (eTM2 eFn) k (es++[(key,v)]) M;obtain⟨v1,v2⟩:=v;dsimp only;refine AMem.intro (tyOf_ok Tryz.prog) hmix Tryz.func28 rfl (by rfl) (by kernel_rfl) (by show 3≤_;decide) rfl ?_;(conv=>whnf);refine aneed ⟨rfl,rfl⟩ ?_;refine⟨eTM eFn es,slk_in (enc:=eTM2 eFn) hk,?_⟩;refine⟨_,_,hlk _,?_⟩;(conv=>whnf);refine aneed ⟨rfl,rfl⟩ ?_;refine⟨eTM eFn es,slk_in (enc:=eTM2 eFn) hk,?_⟩;(conv=>whnf);refine⟨.inl rfl,⟨⟨rfl,rfl,rfl,rfl,rfl,?_⟩,trivial⟩⟩;rw[←hse];unfold eTM2;rw[←hmp]
  all_goals rfl
theorem firstTx_spec (sp nx k:Nat) (M:List (Nat×TM ByteArray)) (es:TM ByteArray) (key:ByteArray) (v:ByteArray) (hk:tlk k M=some es):
 AMem Tryz.prog 25 [.p (.amp sp k),.p (.s key),.p (PV.s v)] [(1000000000,.store 79 true sp nx 0 (enM (eTM2 PV.s) M))] (.tup []) [(1000000000,.store 79 true sp nx 0 (enM (eTM2 PV.s) (tset k (firstT es key v) M)))]:=by
 have hlk:=fun d=>tfind_look PV.s key d es;unfold firstT
 cases hf:tfind key es with
 |some x=>
  rw[hf]at hlk
  skip
  skip
  dsimp only;rw[tlk_id hk];refine AMem.intro (tyOf_ok Tryz.prog) hmix Tryz.func25 rfl (by rfl) (by kernel_rfl) (by show 3≤_;decide) rfl ?_;(conv=>whnf);refine aneed ⟨rfl,rfl⟩ ?_;refine⟨eTM PV.s es,slk_in (enc:=eTM2 PV.s) hk,?_⟩;refine⟨_,_,hlk _,?_⟩;(conv=>whnf);refine⟨.inl rfl,⟨s6,trivial⟩⟩
 |none=>
  rw[hf]at hlk;have hmp:=mput_new PV.s key v es hf;have hse:=sset_en (eTM2 PV.s) k (es++[(key,v)]) M
  skip
  dsimp only;refine AMem.intro (tyOf_ok Tryz.prog) hmix Tryz.func25 rfl (by rfl) (by kernel_rfl) (by show 3≤_;decide) rfl ?_;(conv=>whnf);refine aneed ⟨rfl,rfl⟩ ?_;refine⟨eTM PV.s es,slk_in (enc:=eTM2 PV.s) hk,?_⟩;refine⟨_,_,hlk _,?_⟩;(conv=>whnf);refine aneed ⟨rfl,rfl⟩ ?_;refine⟨eTM PV.s es,slk_in (enc:=eTM2 PV.s) hk,?_⟩;(conv=>whnf);refine⟨.inl rfl,⟨⟨rfl,rfl,rfl,rfl,rfl,?_⟩,trivial⟩⟩;rw[←hse];unfold eTM2;rw[←hmp]
  all_goals rfl
theorem fun_spec (m:Nat) (f:TR.LFu) (z:Ns) (R:Ns×Fn) (hF:funG f z=some R):
 AMem Tryz.prog 27 [.p (.adr mS m),.p (TR.elFu f)] (hN z) (.p (eFn R.2)) (hN R.1):=by
 unfold funG at hF
 cases hb:Nat.ble f.ns.length 1000000 with
 |false=>rw[hb]at hF;cases hF
 |true=>
  rw[hb]at hF;dsimp only at hF
  cases hn:nodeG 50 f.body z with
  |none=>rw[hn]at hF;cases hF
  |some Q=>
   rw[hn]at hF;cases hF;have c1:=TR.cloneM_spec f.ns (by have:=Nat.le_of_ble_eq_true hb;omega);have c2:=node_spec 50 m f.body z Q hn;obtain⟨fnm,fps,fns,fts,⟨tk,tn,ta⟩,⟨xk,xn,xt,xns,xts,xxs,xms,xp⟩⟩:=f;unfold hN at *;unfold TR.elFu;dsimp only at *;rw[TR.eE]at c2;rw[TR.eE,TR.eT];refine AMem.intro (tyOf_ok Tryz.prog) hmix Tryz.func27 rfl (by rfl) (by kernel_rfl) (by show 2≤_;decide) rfl ?_;(conv=>whnf);refine apc c1 ?_;(conv=>whnf);refine amc [1000000000,1000000001,1000000002] 400 c2 ?_;(conv=>whnf);refine aneed (.inl (by kernel_rfl)) ?_;(conv=>whnf);refine⟨.inl rfl,⟨s6,s6,s6,trivial⟩⟩
end MN
