/- Contracts, and the law, for every input. No conditions. -/
import Derived.Test.YtdmopjgjhfhfdaaGreatDoorSZ2
import Derived.Test.YtdmopjgjhfhfdaaGreatDoorPAR
import Derived.Test.YtdmopjgjhfhfdaaGreatDoorMEX
import Derived.Lib.LaidU8
import Derived.Test.YtdmopjgjhfhfdaaGreatDoorMN5
import Derived.Test.YtdmopjgjhfhfdaaGreatDoorChecked
import Derived.Test.YtdmopjgjhfhfdaaGreatDoorRows
import Derived.Test.YtdmopjgjhfhfdaaGreatDoorCards
import Derived.Test.YtdmopjgjhfhfdaaGreatDoorTie
import Derived.ProofKit
import Derived.SizedLaws
import Derived.ChangeBears2
import Derived.OpenShut
import Derived.Deep.DeepHandedRow
import Derived.Lay
import Derived.LaidSub
import Derived.Deep.DeepWitnessRowRef
import Derived.Deep.CondSized
set_option linter.all false
section
open Go Go.AM Go.Proofs TK
set_option maxRecDepth 100000
namespace MN
mutual
theorem wY:∀(e:TR.Ex),(mT e).length≤TR.wE e
 |.mk k n t ns ts xs ms p=>by
  have h1:=Db xs;have h2:=Cv ms;have h3:=TR.tG k n t ns ts xs ms p;rw[mT,List.length_append,List.length_append]
  cases (k==10)&&!(Nat.beq xs.length 0)<;>simp<;>omega
theorem Db:∀(l:List TR.Ex),(oA l).length≤PV.cG (TR.dZ l)
 | []=>by simp[oA]
 |e::r=>by
  have h1:=wY e;have h2:=Db r;unfold TR.wE at h1;rw[oA,List.length_append,TR.dZ,PV.cG];omega
theorem Cv:∀(l:List TR.eR),(o9 l).length≤PV.cG (TR.jz l)
 | []=>by simp[o9]
 |.mk p e::r=>by
  have h1:=wY e;have h2:=Cv r;have h4:=TR.Df p e;unfold TR.wA at h4;rw[o9,List.length_append,TR.jz,PV.cG];omega
end
theorem sY {α:Type} (f:α→PV) (g:α→QF) (h:∀x,TR.wE (g x).2.2≤PV.wt (f x)):∀l:List α,(iF (l.map g)).length≤PV.cG (l.map f)
 | []=>by simp[iF]
 |x::r=>by
  have h1:=wY (g x).2.2;have h2:=h x;have h3:=sY f g h r;simp only[iF,List.map_cons,List.flatMap_cons,List.length_append,PV.cG]at h3 ⊢;omega
theorem Mg (f:TR.zB):TR.wE (lF f).2.2≤PV.wt (TR.cU f):=by have:=TR.v8 f;unfold TR.HQ at this;show TR.wE f.body≤_;omega
theorem Oq (f:TR.JM):TR.wE (lA f).2.2≤PV.wt (TR.gN f):=by rw[TR.wj];show TR.wE f.body≤_;omega
theorem CM (l:List ByteArray):l.length≤PV.cG (l.map TR.bD):=TR.u7 TR.bD (fun x=>by simp only[TR.bD,PV.wt];omega) l
theorem Ny (p:TR.ql) (hp:TR.uo p≤1048576):NN p:=by
 have hw:=TR.qf p;have l1:=TR.Cw p.impls;have l2:=TR.lq p.funcs;have l3:=TR.wJ p.actors;have l4:=TR.u7 TR.j7 (fun x=>by rw[TR.Gu];omega) p.datas;have l5:=TR.u7 TR.j9 (fun x=>by rw[TR.G2];omega) p.traits
 have sF:∀f:TR.zB,PV.wt (TR.cU f)≤1048576→DY (lF f).2:=fun f h=>by
  have h1:=TR.v8 f;unfold TR.HQ at h1;have h2:=CM f.ns;exact⟨show f.ns.length≤_ by omega,show TR.wE f.body≤_ by omega⟩
 have sI:∀x∈p.impls,PV.cG (x.funcs.map TR.cU)≤1048576:=fun x hx=>by
  have:=TR.tQ TR.gZ hx;rw[TR.vW]at this;omega
 refine⟨?_,fun x hx f hf=>sF f ?_,fun f hf=>sF f ?_,fun f hf=>?_,?_⟩
 ·have e1:(p.datas.all fun d=>Nat.ble d.makes.length 2000000)=true:=List.all_eq_true.2 fun d hd=>Nat.ble_eq_true_of_le (by
   have h1:=TR.tQ TR.j7 hd;rw[TR.Gu]at h1;have:=TR.u7 TR.uC (fun x=>by rw[TR.Lu];omega) d.makes;omega)
  have e2:(p.traits.all fun t=>Nat.ble t.funcs.length 2000000)=true:=List.all_eq_true.2 fun d hd=>Nat.ble_eq_true_of_le (by
   have h1:=TR.tQ TR.j9 hd;rw[TR.G2]at h1;have:=TR.lq d.funcs;omega)
  have e3:(p.impls.all fun t=>Nat.ble t.funcs.length 2000000)=true:=List.all_eq_true.2 fun d hd=>Nat.ble_eq_true_of_le (by
   have h1:=sI d hd;have:=TR.lq d.funcs;omega)
  unfold Hj;rw[e1,e2,e3,Nat.ble_eq_true_of_le (show p.datas.length≤2000000 by omega),Nat.ble_eq_true_of_le (show p.traits.length≤2000000 by omega),Nat.ble_eq_true_of_le (show p.impls.length≤2000000 by omega),Nat.ble_eq_true_of_le (show p.funcs.length≤2000000 by omega),Nat.ble_eq_true_of_le (show p.actors.length≤2000000 by omega)];rfl
 ·have:=sI x hx
  have:=TR.tQ TR.cU hf;omega
 ·have:=TR.tQ TR.cU hf
  omega
 ·have h1:=TR.tQ TR.gN hf
  rw[TR.wj]at h1;have h2:=CM f.ns;exact⟨show f.ns.length≤_ by omega,show TR.wE f.body≤_ by omega⟩
 ·have h1:=sY TR.cU lF Mg p.funcs
  have h2:=sY TR.gN lA Oq p.actors
  have h3:∀l:List TR.x7,(oz l).length≤PV.cG (l.map TR.gZ):=by
   intro l
   induction l with
   |nil=>simp[oz]
   |cons x r ih=>
    have h1:=sY TR.cU lF Mg x.funcs;have h2:=TR.vW x;simp only[oz,List.map_cons,List.flatMap_cons,List.length_append,PV.cG]at ih ⊢;omega
  have h3:=h3 p.impls;unfold kO;rw[List.length_append,List.length_append];omega
theorem J4 {K:Ks} {S S1:Ss} {m:Nat} {name:ByteArray} {st:List Ov} {self e:Int} (h:lM K S m name st self=some (S1,.error e)):(e==0)=false:=by
 unfold lM at h
 repeat' split at h
 all_goals first|(cases h;rfl)|cases h
theorem rM (K:Ks) (S:Ss) (zr:bf Rn) (m:Nat) (name:ByteArray) (st:List Ov) (fuels:List Int) (hf:fuels.length≤2000000) (l:List r8) (R:Option (List Ou)) (S':Ss) (r':Option Rn) (h:kC K S m name st fuels l=some (R,S',r')):
 av Tryz.prog 13 [.p (.tX 35 (.bG mS m)),.p (.s name),.p (.sl 4 (gH st)),.p (.sl 1 (fuels.map DO)),.p (.sl 5 (eS l))] (hA K S zr) (yp R) (hA K S' (MU zr r')):=by
 unfold kC at h
 cases hm:lM K S m name st 7 with
 |none=>rw[hm]at h;cases h
 |some P=>
  obtain⟨S1,e|r⟩:=P
  ·rw[hm]at h
   cases h;exact G8 K S zr m name st fuels l _ e (J4 hm) hm
  ·rw[hm]at h
   dsimp only at h
   cases hp:gC K fuels 60001 0 S1 r 1000 0 l [] with
   |none=>rw[hp]at h;cases h
   |some Q=>
    rw[hp]at h;obtain⟨R0,S2,r2⟩:=Q;cases h
    cases fuels with
    |nil=>exact xH K S zr m name st l _ r (R,S',r2) hm hp
    |cons a b=>exact CS K S zr m name st a b hf l _ r (R,S',r2) hm hp
end MN
end
section
open Go Go.AM Go.Proofs
set_option maxRecDepth 100000
namespace TR
theorem rE {α:Type} {f:α→PV}:∀{l:List α},(∀x∈l,bz (f x)=true)→aT (l.map f)=true
 | [],_=>rfl
 |x::r,h=>by rw[List.map_cons,aT,h x List.mem_cons_self,rE fun y hy=>h y (List.mem_cons_of_mem _ hy)];rfl
theorem FR:∀{l m:List PV},aT l=true→aT m=true→aT (l++m)=true
 | [],_,_,h=>h
 |x::r,m,h,q=>by rw[aT,Bool.and_eq_true]at h;rw[List.cons_append,aT,h.1,FR h.2 q];rfl
theorem NG {x:PV} (h:bz x=true):aT x.cells=true:=by
 cases x<;>first|(simpa[PV.cells,aT,bz] using h)
theorem OX (l:List ByteArray):aT (l.map bD)=true:=rE fun _ _=>rfl
theorem O4 (t:Ty):bz (eT t)=true:=by
 induction t using Ty.ind with
 |h k n xs ih=>rw[eT,bz,aT,aT,aT,bz,bz,bz,kz,rE ih];rfl
theorem K6 (l:List Ty):aT (lG l)=true:=by rw[kz];exact rE fun t _=>O4 t
theorem O6 (t:Pt):bz (eP t)=true:=by
 induction t using Pt.ind with
 |h k n t xs ih=>rw[eP,bz,aT,aT,aT,aT,bz,bz,bz,bz,lS,rE ih];rfl
theorem P5 (e:Ex):bz (eE e)=true:=by
 induction e using Ex.ind with
 |h k n t ns ts xs ms p h1 h2=>
  have h3:aT (jz ms)=true:=by
   rw[ko];refine rE fun a ha=>?_;obtain⟨p,e⟩:=a;rw[eA,bz];exact FR (NG (O6 p)) (NG (h2 _ ha))
  have h4:aT (dZ xs)=true:=by rw[iK];exact rE h1
  simp only[eE,bz,aT,OX,K6,h3,h4,Bool.and_self]
theorem Pd (f:zB):bz (cU f)=true:=by
 have:=FR (NG (O4 f.out)) (NG (P5 f.body));simp only[cU,bz,aT,OX,K6,this,Bool.and_self]
theorem JX (l:List zB):aT (l.map cU)=true:=rE fun f _=>Pd f
theorem PR (f:JM):bz (gN f)=true:=by
 have:=FR (NG (O4 f.msg)) (NG (P5 f.body));simp only[gN,bz,aT,OX,K6,this,Bool.and_self]
theorem PO (p:ql):bz (kP p)=true:=by
 have h1:aT (p.uses.map kf)=true:=rE fun _ _=>rfl
 have h2:aT (p.datas.map j7)=true:=rE fun d _=>by
  have:aT (d.makes.map uC)=true:=rE fun m _=>by simp only[uC,bz,aT,K6,Bool.and_self]
  simp only[j7,bz,aT,OX,this,Bool.and_self]
 have h3:aT (p.traits.map j9)=true:=rE fun d _=>by simp only[j9,bz,aT,JX,Bool.and_self]
 have h4:aT (p.impls.map gZ)=true:=rE fun d _=>by simp only[gZ,bz,aT,JX,Bool.and_self]
 have h5:aT (p.actors.map gN)=true:=rE fun f _=>PR f;simp only[kP,bz,aT,h1,h2,h3,h4,JX,h5,Bool.and_self]
end TR
namespace MN
mutual
theorem Qn:∀v:Ov,bz (eO v)=true
 |.mk k n t l=>by simp only[eO,bz,aT,LY l,Bool.and_self]
theorem LY:∀l:List Ov,aT (gH l)=true
 | []=>rfl
 |a::r=>by rw[gH,aT,Qn a,LY r];rfl
end
theorem Pp (l:List r8):aT (eS l)=true:=TR.rE fun s _=>by
 obtain⟨a,k,n,t,l⟩:=s;simp only[Ic,bz,aT,LY l,Bool.and_self]
end MN
end
section
open Go Go.AM Go.Proofs TK
set_option maxRecDepth 100000
namespace MN
theorem PE:PS K0:=⟨fun _ h=>(by cases h),fun _ h=>(by cases h),fun _ h=>(by cases h),fun _ h=>(by cases h),fun _ h=>(by cases h)⟩
theorem Ls:KL S0:=⟨fun _ h=>(by cases h),fun _ h=>(by cases h),fun _ h=>(by cases h),fun _ h=>(by cases h),rfl⟩
theorem JG (ev:Value) (p:TR.ql) (name:ByteArray) (st:List Ov) (l:List r8) (b:Bool) (K1 K2:Ks) (R:Option (List Ou)) (S1 S2 S3:Ss) (r1 r2 r3:Option Rn)
 (hs:av Tryz.prog 17 [.p (TR.kP p)] [] (.p (.b b)) [])
 (hm:av Tryz.prog 11 [] (PA.hE ev) (.p (.b true)) (PA.hE ev))
 (n1:newF p K0=some K1) (n2:newF p K1=some K2)
 (p1:kC K1 S0 0 name st [] l=some (R,S1,r1)) (p2:kC K1 S1 0 name st [] l=some (R,S2,r2)) (p3:kC K2 S2 K1.mm.1 name st [] l=some (R,S3,r3))
 (hR:∀x,R=some x→qJ 0 x):∃K S zr,av Tryz.prog 9 [.p (TR.kP p),.p (.s name),.p (.sl 4 (gH st)),.p (.sl 5 (eS l))] (PA.hE ev++NJ K0 S0 (0,[])) (.p (.b true)) (PA.hE ev++NJ K S zr):=by
 have hn1:=yS K0 p K1 n1;have hn2:=yS K1 p K2 n2;have q1:=rM K1 S0 (0,[]) 0 name st [] (by simp) l R S1 r1 p1;have q2:=rM K1 S1 (MU (0,[]) r1) 0 name st [] (by simp) l R S2 r2 p2;have q3:=rM K2 S2 (MU (MU (0,[]) r1) r2) K1.mm.1 name st [] (by simp) l R S3 r3 p3
 have hso:aU Tryz.prog 18 [.p (.sl 8 (ry (R.getD []))),.p (.sl 8 (ry (R.getD [])))] (.p (.b true)):=by
  cases R with
  |none=>exact Ag [] (by simp) (fun _ h=>(by cases h))
  |some x=>exact Ag x (by have:=(hR x rfl).2;omega) (hR x rfl).1
 clear n1 n2 p1 p2 p3 hR;generalize K1.mm.1=k1 at hn2 q3;obtain⟨pn,pv,pu,pd,pt,pi',pf,pa⟩:=p;unfold PA.hE at *;unfold NJ TR.kP hK hA yp at *
 cases b with
 |false=>
  refine⟨K0,S0,(0,[]),?_⟩;refine av.intro (ah Tryz.prog) az Tryz.func9 rfl (by rfl) (by kernel_rfl) (by show 4≤_;decide) rfl ?_;(conv=>whnf);refine bg [] 500 hs ?_;(conv=>whnf);exact⟨.inl rfl,⟨⟨rfl,rfl⟩,s6,s6,s6,s6,s6,s6,s6,s6,s6,s6,s6,s6,s6,s6,s6,s6,trivial⟩⟩
 |true=>
  refine⟨K2,S3,MU (MU (MU (0,[]) r1) r2) r3,?_⟩;refine av.intro (ah Tryz.prog) az Tryz.func9 rfl (by rfl) (by kernel_rfl) (by show 4≤_;decide) rfl ?_;(conv=>whnf);refine bg [] 500 hs ?_;(conv=>whnf);refine bg [1000000000] 500 hm ?_;(conv=>whnf);refine bg [1000000003,1000000004,1000000005,1000000010,1000000011,1000000012,1000000013,1000000014,1000000015] 500 hn1 ?_;(conv=>whnf);refine bg iD 500 q1 ?_;(conv=>whnf);refine bg iD 500 q2 ?_;(conv=>whnf);refine bg [1000000003,1000000004,1000000005,1000000010,1000000011,1000000012,1000000013,1000000014,1000000015] 500 hn2 ?_;(conv=>whnf);refine bg iD 500 q3 ?_;(conv=>whnf);have hb:(R.isSome==R.isSome)=true:=beq_self_eq_true R.isSome
  cases R with
  |none=>
   (conv=>whnf);refine iX hso ?_;(conv=>whnf);refine iX hso ?_;(conv=>whnf);exact⟨.inl rfl,⟨⟨rfl,rfl⟩,s6,s6,s6,s6,s6,s6,s6,s6,s6,s6,s6,s6,s6,s6,s6,s6,trivial⟩⟩
  |some x=>
   (conv=>whnf);refine iX hso ?_;(conv=>whnf);refine iX hso ?_;(conv=>whnf);exact⟨.inl rfl,⟨⟨rfl,rfl⟩,s6,s6,s6,s6,s6,s6,s6,s6,s6,s6,s6,s6,s6,s6,s6,s6,trivial⟩⟩
theorem zH (ev:Value) (hev:ev=.nilIface∨∃te pe,ev=.iface te pe) (p:TR.ql) (hp:TR.uo p≤1048576) (name:ByteArray) (st:List Ov) (l:List r8) (hi:Pu st l):av Tryz.prog 9 [.p (TR.kP p),.p (.s name),.p (.sl 4 (gH st)),.p (.sl 5 (eS l))] (PA.hE ev) (.p (.b true)) (PA.hE ev):=by
 have h:=Ny p hp;obtain⟨K1,n1,k1,o1⟩:=JQ h PE;obtain⟨K2,n2,k2,o2⟩:=JQ h k1;obtain⟨R,S1,r1,S1',r1',a1,a2,a3,a4,a5⟩:=oX h o1 o1 Ls Ls name [] hi;obtain⟨R2,S2,r2,S2',r2',b1,b2,b3,b4,b5⟩:=oX h o1 o1 Ls a3 name [] hi;obtain⟨R3,S3,r3,S3',r3',c1,c2,c3,c4,c5⟩:=oX h o1 o2 Ls b4 name [] hi;rw[a1]at b1 c1
 cases b1;cases c1
 obtain⟨K,S,zr,hx⟩:=JG ev p name st l _ K1 K2 R S1 S2' S3' r1 r2' r3' (TR.Et p hp) (FF ev hev) n1 n2 a1 b2 c2 a5;exact av.N2 hx (by simp only[List.all_cons,List.all_nil,uE,bz,TR.PO,LY,Pp,Bool.and_self]) rfl rfl rfl
end MN
end
section
open Go Go.AM Go.Proofs TK
set_option maxRecDepth 100000
end
section
open Go Go.Proofs
namespace Go.AM
theorem DV {P:Program} {W:World} {name:String} {d:DataW Unit} {g:Nat} {t:TypeId} (hg:P.globalNamed name=some g) (hty:(P.globals[g]?).map (·.type)=some t) (ht:(match P.underlying t with|some (.interface _)=>true|_=>false)=true)
 (h:Lib.VarReads P W name d):∃ev:Value,(ev=.nilIface∨∃te pe,ev=.iface te pe)∧∃(E:TypeId) (fr:Nat×Nat),W.heap[g]?=some (.cells [ev].toArray E fr):=by
 obtain⟨g',t',cs,fuel,p,hg',ht',hvar,hd⟩:=h;obtain rfl:=Option.some.inj (hg.symm.trans hg');obtain rfl:=Option.some.inj (hty.symm.trans ht')
 have hcs:∃ev:Value,(ev=.nilIface∨∃te pe,ev=.iface te pe)∧cs=[ev].toArray:=by
  cases fuel with
  |zero=>simp[DataW.trod]at hd
  |succ fuel=>
   split at ht
   ·rename_i x hx
    simp only[DataW.trod,hx]at hd;split at hd
    all_goals first|(rename_i h1 _;cases h1;done)|(rename_i h1;cases h1;done)|(cases hd;done)|skip
    ·rename_i _ h2
     exact⟨.nilIface,.inl rfl,by rw[←h2]⟩
    ·rename_i _ h2
     exact⟨_,.inr ⟨_,_,rfl⟩,by rw[←h2]⟩
   ·cases ht
 obtain⟨ev,h1,h2⟩:=hcs;refine⟨ev,h1,?_⟩;unfold World.var? at hvar;rw[hg]at hvar;simp only[Option.bind_some]at hvar;split at hvar
 ·rename_i cs' E fr hb
  simp only[Option.some.injEq]at hvar;exact⟨E,fr,by rw[hb,hvar,h2]⟩
 ·cases hvar
end Go.AM
end
section
open Go Go.AM Go.Proofs
set_option maxRecDepth 100000
namespace Go.Proofs.YtdmopjgjhfhfdaaGreatDoor
theorem Tryz.own:ownKnob Tryz.prog.godebug=none:=by kernel_rfl
theorem Tryz.zN:Tryz.prog.globalNamed "strconv.ErrRange"=some 2:=by kernel_rfl
theorem I5 {l:List (String×DataW Unit)} {W:World} (h:laidMetH Tryz.prog l W) (hm:("strconv.ErrRange",(Rows.laid_strconv_ErrRange:DataW Unit))∈l):∃ev:Value,(ev=.nilIface∨∃te pe,ev=.iface te pe)∧∃(E:TypeId) (fr:Nat×Nat),W.heap[2]?=some (.cells [ev].toArray E fr):=by
 have h1:=Lib.laidMet.reads (laidMetH_iff.1 h).1 (n:= "strconv.ErrRange") (d:=Rows.laid_strconv_ErrRange) (List.mem_filter.2 ⟨hm,by kernel_rfl⟩);exact DV (t:=224) Tryz.zN (by kernel_rfl) (by kernel_rfl) h1
end Go.Proofs.YtdmopjgjhfhfdaaGreatDoor
end
section
open Go Go.AM Go.Proofs TR
set_option maxRecDepth 100000
namespace Go.Proofs.YtdmopjgjhfhfdaaGreatDoor
mutual
theorem mj {H:Type}:∀(d:DataW H),Rows.uptoBulk d=ez d
 |.lit (.string _)=>by simp[Rows.uptoBulk,ez]
 |.lit (.bool _)=>by simp[Rows.uptoBulk,ez]
 |.lit (.int _ _)=>by simp[Rows.uptoBulk,ez]
 |.lit (.float _ _)=>by simp[Rows.uptoBulk,ez]
 |.lit .nil=>by simp[Rows.uptoBulk,ez]
 |.nil=>by simp[Rows.uptoBulk,ez]
 |.ptr d=>by simp[Rows.uptoBulk,ez,mj d]
 |.slice a b=>by simp[Rows.uptoBulk,ez,ld a,ld b]
 |.agg a=>by simp[Rows.uptoBulk,ez,ld a]
 |.iface _ d=>by simp[Rows.uptoBulk,ez,mj d]
 |.map es=>by simp[Rows.uptoBulk,ez,pz es]
 |.held _=>by simp[Rows.uptoBulk,ez]
theorem ld {H:Type}:∀(d:List (DataW H)),Rows.uptoBulkAll d=cT d
 | []=>by simp[Rows.uptoBulkAll,cT]
 |x::r=>by simp[Rows.uptoBulkAll,cT,mj x,ld r]
theorem pz {H:Type}:∀(d:List (Lit×DataW H)),Rows.uptoBulkEntries d=jI d
 | []=>by simp[Rows.uptoBulkEntries,jI]
 |x::r=>by simp[Rows.uptoBulkEntries,jI,AU x,pz r]
theorem AU {H:Type}:∀(d:Lit×DataW H),Rows.uptoBulkEntry d=jd d
 |(.string _,d)=>by simp[Rows.uptoBulkEntry,jd,mj d]
 |(.bool _,d)=>by simp[Rows.uptoBulkEntry,jd,mj d]
 |(.int _ _,d)=>by simp[Rows.uptoBulkEntry,jd,mj d]
 |(.float _ _,d)=>by simp[Rows.uptoBulkEntry,jd,mj d]
 |(.nil,d)=>by simp[Rows.uptoBulkEntry,jd,mj d]
end
theorem I7 {H:Type} {ds:List (DataW H)} (h:Rows.uptoSmall H ds=true):cT ds≤1048576:=by
 rw[←ld];exact of_decide_eq_true h
theorem Gg (y:PV) (h:TP Tryz.prog 9 [y]):∃d,y=bD d∧True:=by
 obtain⟨s,e,_⟩:=gV (by kernel_rfl) h;cases e;exact⟨s,rfl,trivial⟩
theorem yE:∀(n:Nat) (cs:List PV),SizeOf.sizeOf cs<n→TP Tryz.prog 97 cs→∃t,PV.agg cs=eT t∧True
 |0,cs,hn,_=>by omega
 |n+1,cs,hn,h=>by
  obtain⟨hl,hf⟩:=dI (n:=3) (l:=[(0,3,1),(1,9,1),(2,88,1)]) (by kernel_rfl) h
  match cs,hl with
  | [a,b,c],_=>
    obtain⟨k,e1,_⟩:=jZ (k:=.i64) (by kernel_rfl) (hf (0,3,1) (by simp));obtain⟨s,e2,_⟩:=gV (by kernel_rfl) (hf (1,9,1) (by simp));obtain⟨xs,e3,hb,hc,ha⟩:=kX (e:=97) (c:=3) (b:=48) (agg:=true) (by kernel_rfl) (hf (2,88,1) (by simp))
    cases e1;cases e2;cases e3
    obtain⟨l,rfl,_⟩:=jE (enc:=eT) (Q:=fun _=>True) xs (fun y hy=>by
     obtain⟨ys,rfl⟩:=(ha y hy).1 rfl;have h1:=List.sizeOf_lt_of_mem hy;exact yE n ys (by simp at hn h1;omega) (hc _ hy))
    exact⟨.mk k s l,by rw[eT,kz],trivial⟩
theorem FY:∀(n:Nat) (cs:List PV),SizeOf.sizeOf cs<n→TP Tryz.prog 164 cs→∃t,PV.agg cs=eP t∧True
 |0,cs,hn,_=>by omega
 |n+1,cs,hn,h=>by
  obtain⟨hl,hf⟩:=dI (n:=4) (l:=[(0,3,1),(1,3,1),(2,9,1),(3,162,1)]) (by kernel_rfl) h
  match cs,hl with
  | [a,b,c,d],_=>
    obtain⟨k,e1,_⟩:=jZ (k:=.i64) (by kernel_rfl) (hf (0,3,1) (by simp));obtain⟨m,e4,wm⟩:=jZ (k:=.i64) (by kernel_rfl) (hf (1,3,1) (by simp));obtain⟨s,e2,_⟩:=gV (by kernel_rfl) (hf (2,9,1) (by simp));obtain⟨xs,e3,hb,hc,ha⟩:=kX (e:=164) (c:=4) (b:=56) (agg:=true) (by kernel_rfl) (hf (3,162,1) (by simp))
    cases e1;cases e2;cases e3;cases e4
    obtain⟨l,rfl,_⟩:=jE (enc:=eP) (Q:=fun _=>True) xs (fun y hy=>by
     obtain⟨ys,rfl⟩:=(ha y hy).1 rfl;have h1:=List.sizeOf_lt_of_mem hy;exact FY n ys (by simp at hn h1;omega) (hc _ hy))
    exact⟨.mk k m s l,by rw[eP,lS],trivial⟩
theorem HU (a b:List PV):SizeOf.sizeOf b≤SizeOf.sizeOf (a++b):=by
 induction a with
 |nil=>simp
 |cons x r ih=>simp;omega
theorem Bb:∀(n:Nat) (cs:List PV),SizeOf.sizeOf cs<n→TP Tryz.prog 101 cs→∃t,PV.agg cs=eE t∧True
 |0,cs,hn,_=>by omega
 |n+1,cs,hn,h=>by
  obtain⟨hl,hf⟩:=dI (n:=8) (l:=[(0,3,1),(1,3,1),(2,9,1),(3,53,1),(4,88,1),(5,98,1),(6,99,1),(7,3,1)]) (by kernel_rfl) h
  match cs,hl with
  | [a0,a1,a2,a3,a4,a5,a6,a7],_=>
    obtain⟨k,e0,_⟩:=jZ (k:=.i64) (by kernel_rfl) (hf (0,3,1) (by simp));obtain⟨m,e1,_⟩:=jZ (k:=.i64) (by kernel_rfl) (hf (1,3,1) (by simp));obtain⟨s,e2,_⟩:=gV (by kernel_rfl) (hf (2,9,1) (by simp));obtain⟨ns,e3,_⟩:=Dj (e:=9) (c:=1) (b:=16) (by kernel_rfl) (hf (3,53,1) (by simp)) Gg;obtain⟨ts,e4,_⟩:=gw (e:=97) (c:=3) (b:=48) (enc:=eT) (Q:=fun _=>True) (by kernel_rfl) (hf (4,88,1) (by simp)) (fun cs hcs=>yE _ cs (Nat.lt_succ_self _) hcs);obtain⟨xs,e5,_,hc5,ha5⟩:=kX (e:=101) (c:=8) (b:=136) (agg:=true) (by kernel_rfl) (hf (5,98,1) (by simp));obtain⟨ms,e6,_,hc6,ha6⟩:=kX (e:=166) (c:=12) (b:=192) (agg:=true) (by kernel_rfl) (hf (6,99,1) (by simp));obtain⟨p,e7,_⟩:=jZ (k:=.i64) (by kernel_rfl) (hf (7,3,1) (by simp))
    cases e0;cases e1;cases e2;cases e3;cases e4;cases e5;cases e6;cases e7
    obtain⟨l5,rfl,_⟩:=jE (enc:=eE) (Q:=fun _=>True) xs (fun y hy=>by
     obtain⟨ys,rfl⟩:=(ha5 y hy).1 rfl;have h1:=List.sizeOf_lt_of_mem hy;exact Bb n ys (by simp at hn h1;omega) (hc5 _ hy))
    obtain⟨l6,rfl,_⟩:=jE (enc:=eA) (Q:=fun _=>True) ms (fun y hy=>by
     obtain⟨ys,rfl⟩:=(ha6 y hy).1 rfl;have h1:=List.sizeOf_lt_of_mem hy;obtain⟨hl6,hf6⟩:=dI (n:=12) (l:=[(0,164,4),(4,101,8)]) (by kernel_rfl) (hc6 _ hy);simp only[PV.cells]at hl6 hf6;obtain⟨q1,w1,_⟩:=FY _ _ (Nat.lt_succ_self _) (hf6 (0,164,4) (by simp));have hd:(ys.drop 4).take 8=ys.drop 4:=List.take_of_length_le (by simp;omega);have hs:=HU (ys.take 4) (ys.drop 4);rw[List.take_append_drop]at hs;have h2:=hf6 (4,101,8) (by simp);simp only[hd]at h2;obtain⟨q2,w2,_⟩:=Bb n (ys.drop 4) (by simp at hn h1;omega) h2;refine⟨.mk q1 q2,?_,trivial⟩;rw[eA,←w1,←w2];simp only[PV.cells,List.drop_zero,List.take_append_drop])
    exact⟨.mk k m s ns ts l5 l6 p,by rw[eE,kz,iK,ko],trivial⟩
theorem vY {x:PV} (h:TP Tryz.prog 53 [x]):∃l:List ByteArray,x=.sl 1 (l.map bD):=by
 obtain⟨ns,e3,_⟩:=Dj (e:=9) (c:=1) (b:=16) (by kernel_rfl) h Gg;cases e3;exact⟨ns,rfl⟩
theorem Bo {x:PV} (h:TP Tryz.prog 88 [x]):∃l:List Ty,x=.sl 3 (lG l):=by
 obtain⟨ts,e4,_⟩:=gw (e:=97) (c:=3) (b:=48) (enc:=eT) (Q:=fun _=>True) (by kernel_rfl) h (fun cs hcs=>yE _ cs (Nat.lt_succ_self _) hcs)
 cases e4;exact⟨ts,by rw[kz]⟩
theorem JL (cs:List PV) (h:TP Tryz.prog 193 cs):∃f:MQ,PV.agg cs=kf f∧True:=by
 obtain⟨hl,hf⟩:=dI (n:=3) (l:=[(0,9,1),(1,3,1),(2,3,1)]) (by kernel_rfl) h
 match cs,hl with
 | [a0,a1,a2],_=>
   obtain⟨s,e0,_⟩:=gV (by kernel_rfl) (hf (0,9,1) (by simp));obtain⟨k,e1,_⟩:=jZ (k:=.i64) (by kernel_rfl) (hf (1,3,1) (by simp));obtain⟨m,e2,_⟩:=jZ (k:=.i64) (by kernel_rfl) (hf (2,3,1) (by simp))
   cases e0;cases e1;cases e2
   exact⟨⟨s,k,m⟩,rfl,trivial⟩
theorem Bm (cs:List PV) (h:TP Tryz.prog 103 cs):∃f:zB,PV.agg cs=cU f∧True:=by
 obtain⟨hl,hf⟩:=dI (n:=15) (l:=[(0,9,1),(1,53,1),(2,53,1),(3,88,1),(4,97,3),(7,101,8)]) (by kernel_rfl) h
 match cs,hl with
 | [a0,a1,a2,a3,b1,b2,b3,c1,c2,c3,c4,c5,c6,c7,c8],_=>
   obtain⟨s,e0,_⟩:=gV (by kernel_rfl) (hf (0,9,1) (by simp));obtain⟨l1,e1⟩:=vY (hf (1,53,1) (by simp));obtain⟨l2,e2⟩:=vY (hf (2,53,1) (by simp));obtain⟨l3,e3⟩:=Bo (hf (3,88,1) (by simp));obtain⟨t,e4,_⟩:=yE _ [b1,b2,b3] (Nat.lt_succ_self _) (hf (4,97,3) (by simp));obtain⟨e,e5,_⟩:=Bb _ [c1,c2,c3,c4,c5,c6,c7,c8] (Nat.lt_succ_self _) (hf (7,101,8) (by simp))
   cases e0;subst e1;subst e2;subst e3
   refine⟨⟨s,l1,l2,l3,t,e⟩,?_,trivial⟩;rw[cU,←e4,←e5];rfl
theorem LD (cs:List PV) (h:TP Tryz.prog 106 cs):∃f:x7,PV.agg cs=gZ f∧True:=by
 obtain⟨hl,hf⟩:=dI (n:=3) (l:=[(0,9,1),(1,9,1),(2,27,1)]) (by kernel_rfl) h
 match cs,hl with
 | [a0,a1,a2],_=>
   obtain⟨s,e0,_⟩:=gV (by kernel_rfl) (hf (0,9,1) (by simp));obtain⟨u,e1,_⟩:=gV (by kernel_rfl) (hf (1,9,1) (by simp));obtain⟨fs,e2,_⟩:=gw (e:=103) (c:=15) (b:=272) (enc:=cU) (Q:=fun _=>True) (by kernel_rfl) (hf (2,27,1) (by simp)) (fun cs hcs=>Bm cs hcs)
   cases e0;cases e1;cases e2
   exact⟨⟨s,u,fs⟩,rfl,trivial⟩
theorem Lv (cs:List PV) (h:TP Tryz.prog 90 cs):∃f:N1,PV.agg cs=uC f∧True:=by
 obtain⟨hl,hf⟩:=dI (n:=2) (l:=[(0,9,1),(1,88,1)]) (by kernel_rfl) h
 match cs,hl with
 | [a0,a1],_=>
   obtain⟨s,e0,_⟩:=gV (by kernel_rfl) (hf (0,9,1) (by simp));obtain⟨l3,e3⟩:=Bo (hf (1,88,1) (by simp))
   cases e0;subst e3
   exact⟨⟨s,l3⟩,rfl,trivial⟩
theorem LM (cs:List PV) (h:TP Tryz.prog 87 cs):∃f:N4,PV.agg cs=j7 f∧True:=by
 obtain⟨hl,hf⟩:=dI (n:=3) (l:=[(0,9,1),(1,53,1),(2,85,1)]) (by kernel_rfl) h
 match cs,hl with
 | [a0,a1,a2],_=>
   obtain⟨s,e0,_⟩:=gV (by kernel_rfl) (hf (0,9,1) (by simp));obtain⟨l1,e1⟩:=vY (hf (1,53,1) (by simp));obtain⟨fs,e2,_⟩:=gw (e:=90) (c:=2) (b:=40) (enc:=uC) (Q:=fun _=>True) (by kernel_rfl) (hf (2,85,1) (by simp)) (fun cs hcs=>Lv cs hcs)
   cases e0;subst e1;cases e2
   exact⟨⟨s,l1,fs⟩,rfl,trivial⟩
theorem KY (cs:List PV) (h:TP Tryz.prog 95 cs):∃f:OE,PV.agg cs=j9 f∧True:=by
 obtain⟨hl,hf⟩:=dI (n:=2) (l:=[(0,9,1),(1,27,1)]) (by kernel_rfl) h
 match cs,hl with
 | [a0,a1],_=>
   obtain⟨s,e0,_⟩:=gV (by kernel_rfl) (hf (0,9,1) (by simp));obtain⟨fs,e2,_⟩:=gw (e:=103) (c:=15) (b:=272) (enc:=cU) (Q:=fun _=>True) (by kernel_rfl) (hf (1,27,1) (by simp)) (fun cs hcs=>Bm cs hcs)
   cases e0;cases e2
   exact⟨⟨s,fs⟩,rfl,trivial⟩
theorem LO (cs:List PV) (h:TP Tryz.prog 115 cs):∃f:JM,PV.agg cs=gN f∧True:=by
 obtain⟨hl,hf⟩:=dI (n:=14) (l:=[(0,9,1),(1,53,1),(2,88,1),(3,97,3),(6,101,8)]) (by kernel_rfl) h
 match cs,hl with
 | [a0,a1,a3,b1,b2,b3,c1,c2,c3,c4,c5,c6,c7,c8],_=>
   obtain⟨s,e0,_⟩:=gV (by kernel_rfl) (hf (0,9,1) (by simp));obtain⟨l1,e1⟩:=vY (hf (1,53,1) (by simp));obtain⟨l3,e3⟩:=Bo (hf (2,88,1) (by simp));obtain⟨t,e4,_⟩:=yE _ [b1,b2,b3] (Nat.lt_succ_self _) (hf (3,97,3) (by simp));obtain⟨e,e5,_⟩:=Bb _ [c1,c2,c3,c4,c5,c6,c7,c8] (Nat.lt_succ_self _) (hf (6,101,8) (by simp))
   cases e0;subst e1;subst e3
   refine⟨⟨s,l1,l3,t,e⟩,?_,trivial⟩;rw[gN,←e4,←e5];rfl
theorem Ll (cs:List PV) (h:TP Tryz.prog 30 cs):∃f:ql,PV.agg cs=kP f∧True:=by
 obtain⟨hl,hf⟩:=dI (n:=8) (l:=[(0,9,1),(1,3,1),(2,23,1),(3,24,1),(4,25,1),(5,26,1),(6,27,1),(7,28,1)]) (by kernel_rfl) h
 match cs,hl with
 | [a0,a1,a2,a3,a4,a5,a6,a7],_=>
   obtain⟨s,e0,_⟩:=gV (by kernel_rfl) (hf (0,9,1) (by simp));obtain⟨n,e1,_⟩:=jZ (k:=.i64) (by kernel_rfl) (hf (1,3,1) (by simp));obtain⟨l2,e2,_⟩:=gw (e:=193) (c:=3) (b:=32) (enc:=kf) (Q:=fun _=>True) (by kernel_rfl) (hf (2,23,1) (by simp)) (fun cs hcs=>JL cs hcs);obtain⟨l3,e3,_⟩:=gw (e:=87) (c:=3) (b:=64) (enc:=j7) (Q:=fun _=>True) (by kernel_rfl) (hf (3,24,1) (by simp)) (fun cs hcs=>LM cs hcs);obtain⟨l4,e4,_⟩:=gw (e:=95) (c:=2) (b:=40) (enc:=j9) (Q:=fun _=>True) (by kernel_rfl) (hf (4,25,1) (by simp)) (fun cs hcs=>KY cs hcs);obtain⟨l5,e5,_⟩:=gw (e:=106) (c:=3) (b:=56) (enc:=gZ) (Q:=fun _=>True) (by kernel_rfl) (hf (5,26,1) (by simp)) (fun cs hcs=>LD cs hcs);obtain⟨l6,e6,_⟩:=gw (e:=103) (c:=15) (b:=272) (enc:=cU) (Q:=fun _=>True) (by kernel_rfl) (hf (6,27,1) (by simp)) (fun cs hcs=>Bm cs hcs);obtain⟨l7,e7,_⟩:=gw (e:=115) (c:=14) (b:=248) (enc:=gN) (Q:=fun _=>True) (by kernel_rfl) (hf (7,28,1) (by simp)) (fun cs hcs=>LO cs hcs)
   cases e0;cases e1;cases e2;cases e3;cases e4;cases e5;cases e6;cases e7
   exact⟨⟨s,n,l2,l3,l4,l5,l6,l7⟩,rfl,trivial⟩
theorem FH:∀(n:Nat) (cs:List PV),SizeOf.sizeOf cs<n→TP Tryz.prog 39 cs→∃t,PV.agg cs=MN.eO t∧True
 |0,cs,hn,_=>by omega
 |n+1,cs,hn,h=>by
  obtain⟨hl,hf⟩:=dI (n:=4) (l:=[(0,3,1),(1,3,1),(2,9,1),(3,37,1)]) (by kernel_rfl) h
  match cs,hl with
  | [a,b,c,d],_=>
    obtain⟨k,e1,_⟩:=jZ (k:=.i64) (by kernel_rfl) (hf (0,3,1) (by simp));obtain⟨m,e2,_⟩:=jZ (k:=.i64) (by kernel_rfl) (hf (1,3,1) (by simp));obtain⟨s,e3,_⟩:=gV (by kernel_rfl) (hf (2,9,1) (by simp));obtain⟨xs,e4,hb,hc,ha⟩:=kX (e:=39) (c:=4) (b:=56) (agg:=true) (by kernel_rfl) (hf (3,37,1) (by simp))
    cases e1;cases e2;cases e3;cases e4
    obtain⟨l,rfl,_⟩:=jE (enc:=MN.eO) (Q:=fun _=>True) xs (fun y hy=>by
     obtain⟨ys,rfl⟩:=(ha y hy).1 rfl;have h1:=List.sizeOf_lt_of_mem hy;exact FH n ys (by simp at hn h1;omega) (hc _ hy))
    exact⟨.mk k m s l,by rw[MN.eO,MN.qw],trivial⟩
theorem Lj {x:List PV} (h:TP Tryz.prog 37 x):∃l:List MN.Ov,x=[.sl 4 (MN.gH l)]:=by
 obtain⟨l,e,_⟩:=gw (e:=39) (c:=4) (b:=56) (enc:=MN.eO) (Q:=fun _=>True) (by kernel_rfl) h (fun cs hcs=>FH _ cs (Nat.lt_succ_self _) hcs);exact⟨l,by rw[e,MN.qw]⟩
theorem K5 (cs:List PV) (h:TP Tryz.prog 66 cs):∃s:MN.r8,PV.agg cs=MN.Ic s∧True:=by
 obtain⟨hl,hf⟩:=dI (n:=5) (l:=[(0,3,1),(1,39,4)]) (by kernel_rfl) h
 match cs,hl with
 | [a,b,c,d,e],_=>
   obtain⟨k,e1,_⟩:=jZ (k:=.i64) (by kernel_rfl) (hf (0,3,1) (by simp));obtain⟨v,e2,_⟩:=FH _ [b,c,d,e] (Nat.lt_succ_self _) (hf (1,39,4) (by simp));cases e1;obtain⟨w,m,t,l⟩:=v;rw[MN.eO]at e2
   injection e2 with e2
   simp only[List.cons.injEq,and_true]at e2;obtain⟨rfl,rfl,rfl,rfl⟩:=e2;exact⟨⟨k,.mk w m t l⟩,rfl,trivial⟩
theorem Jz {x:List PV} (h:TP Tryz.prog 49 x):∃l:List MN.r8,x=[.sl 5 (MN.eS l)]:=by
 obtain⟨l,e,_⟩:=gw (e:=66) (c:=5) (b:=64) (enc:=MN.Ic) (Q:=fun _=>True) (by kernel_rfl) h (fun cs hcs=>K5 cs hcs);exact⟨l,e⟩
mutual
theorem IE:∀v:MN.Ov,PV.wt (MN.eO v)≤1048576→MN.GQ v
 |.mk k n t l=>fun h=>by
  simp only[MN.eO,PV.wt,PV.cG]at h;obtain⟨h1,h2⟩:=A1 l (by omega);rw[MN.GQ];exact⟨by omega,by omega,h2⟩
theorem A1:∀l:List MN.Ov,PV.cG (MN.gH l)≤1048576→l.length≤PV.cG (MN.gH l)∧MN.Ff l
 | []=>fun _=>⟨Nat.zero_le _,by rw[MN.Ff];trivial⟩
 |v::r=>fun h=>by
  rw[MN.gH,PV.cG]at h;have h1:=IE v (by omega);obtain⟨h2,h3⟩:=A1 r (by omega)
  have h4:1≤PV.wt (MN.eO v):=by
   obtain⟨k,n,t,l⟩:=v;simp only[MN.eO,PV.wt,PV.cG];omega
  rw[MN.gH,PV.cG,List.length_cons,MN.Ff];exact⟨by omega,h1,h3⟩
end
theorem M4 {st:List MN.Ov} {l:List MN.r8} (h1:PV.cG (MN.gH st)≤1048576) (h2:PV.cG (MN.eS l)≤1048576):MN.Pu st l:=by
 obtain⟨a1,a2⟩:=A1 st h1;refine⟨MN.y7 a2,by omega,fun s hs=>IE _ ?_⟩;have:=tQ MN.Ic hs;unfold MN.eS at h2;obtain⟨a,k,n,t,q⟩:=s;simp only[MN.Ic,MN.eO,PV.wt,PV.cG]at this ⊢;omega
end Go.Proofs.YtdmopjgjhfhfdaaGreatDoor
end
