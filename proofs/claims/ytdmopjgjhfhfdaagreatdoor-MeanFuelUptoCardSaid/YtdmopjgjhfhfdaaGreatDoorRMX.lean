/- Contracts, and the law, for every input. No conditions. -/
import Derived.Test.YtdmopjgjhfhfdaaGreatDoorPAD
import Derived.Test.YtdmopjgjhfhfdaaGreatDoorMEX
import Derived.Test.YtdmopjgjhfhfdaaGreatDoorAMRec
import Derived.Lib.LaidU8
import Derived.Test.YtdmopjgjhfhfdaaGreatDoorMN5
import Derived.Test.YtdmopjgjhfhfdaaGreatDoorChecked
import Derived.Test.YtdmopjgjhfhfdaaGreatDoorRows
import Derived.Test.YtdmopjgjhfhfdaaGreatDoorCards
import Derived.Test.YtdmopjgjhfhfdaaGreatDoorTie
import Derived.ProofKit
import Derived.SizedLaws
import Derived.ChangeBears2
import Derived.OpenShut
import Derived.Deep.DeepHandedRow
import Derived.Lay
import Derived.LaidSub
import Derived.Deep.DeepWitnessRowRef
import Derived.Deep.CondSized
set_option linter.all false
section
open Go Go.AM Go.Proofs TK
set_option maxRecDepth 100000
namespace MN
mutual
theorem xL:∀(e:TR.Ex),(nc e).length≤TR.wE e
 |.mk k n t ns ts xs ms p=>by
  have h1:=Dp xs;have h2:=C3 ms;have h3:=TR.sU k n t ns ts xs ms p;rw[nc,List.length_append,List.length_append]
  cases (k==10)&&!(Nat.beq xs.length 0)<;>simp<;>omega
theorem Dp:∀(l:List TR.Ex),(oF l).length≤PV.cH (TR.eg l)
 | []=>by simp[oF]
 |e::r=>by
  have h1:=xL e;have h2:=Dp r;unfold TR.wE at h1;rw[oF,List.length_append,TR.eg,PV.cH];omega
theorem C3:∀(l:List TR.eU),(pK l).length≤PV.cH (TR.jF l)
 | []=>by simp[pK]
 |.mk p e::r=>by
  have h1:=xL e;have h2:=C3 r;have h4:=TR.CT p e;unfold TR.wA at h4;rw[pK,List.length_append,TR.jF,PV.cH];omega
end
theorem uf {α:Type} (f:α→PV) (g:α→QF) (h:∀x,TR.wE (g x).2.2≤PV.wt (f x)):∀l:List α,(iV (l.map g)).length≤PV.cH (l.map f)
 | []=>by simp[iV]
 |x::r=>by
  have h1:=xL (g x).2.2;have h2:=h x;have h3:=uf f g h r;simp only[iV,List.map_cons,List.flatMap_cons,List.length_append,PV.cH]at h3 ⊢;omega
theorem Ms (f:TR.zU):TR.wE (lF f).2.2≤PV.wt (TR.cY f):=by have:=TR.wg f;unfold TR.IE at this;show TR.wE f.body≤_;omega
theorem OY (f:TR.JS):TR.wE (lA f).2.2≤PV.wt (TR.gM f):=by rw[TR.wM];show TR.wE f.body≤_;omega
theorem CZ (l:List ByteArray):l.length≤PV.cH (l.map TR.bE):=TR.qN TR.bE (fun x=>by simp only[TR.bE,PV.wt];omega) l
theorem M9 (p:TR.oH) (hp:TR.uY p≤1048576):Nb p:=by
 have hw:=TR.qv p;have l1:=TR.CI p.impls;have l2:=TR.kT p.funcs;have l3:=TR.zb p.actors;have l4:=TR.qN TR.kg (fun x=>by rw[TR.GK];omega) p.datas;have l5:=TR.qN TR.kj (fun x=>by rw[TR.G8];omega) p.traits
 have sF:∀f:TR.zU,PV.wt (TR.cY f)≤1048576→Eh (lF f).2:=fun f h=>by
  have h1:=TR.wg f;unfold TR.IE at h1;have h2:=CZ f.ns;exact⟨show f.ns.length≤_ by omega,show TR.wE f.body≤_ by omega⟩
 have sI:∀x∈p.impls,PV.cH (x.funcs.map TR.cY)≤1048576:=fun x hx=>by
  have:=TR.tv TR.hY hx;rw[TR.wz]at this;omega
 refine⟨?_,fun x hx f hf=>sF f ?_,fun f hf=>sF f ?_,fun f hf=>?_,?_⟩
 ·have e1:(p.datas.all fun d=>Nat.ble d.makes.length 2000000)=true:=List.all_eq_true.2 fun d hd=>Nat.ble_eq_true_of_le (by
   have h1:=TR.tv TR.kg hd;rw[TR.GK]at h1;have:=TR.qN TR.uJ (fun x=>by rw[TR.LL];omega) d.makes;omega)
  have e2:(p.traits.all fun t=>Nat.ble t.funcs.length 2000000)=true:=List.all_eq_true.2 fun d hd=>Nat.ble_eq_true_of_le (by
   have h1:=TR.tv TR.kj hd;rw[TR.G8]at h1;have:=TR.kT d.funcs;omega)
  have e3:(p.impls.all fun t=>Nat.ble t.funcs.length 2000000)=true:=List.all_eq_true.2 fun d hd=>Nat.ble_eq_true_of_le (by
   have h1:=sI d hd;have:=TR.kT d.funcs;omega)
  unfold Ia;rw[e1,e2,e3,Nat.ble_eq_true_of_le (show p.datas.length≤2000000 by omega),Nat.ble_eq_true_of_le (show p.traits.length≤2000000 by omega),Nat.ble_eq_true_of_le (show p.impls.length≤2000000 by omega),Nat.ble_eq_true_of_le (show p.funcs.length≤2000000 by omega),Nat.ble_eq_true_of_le (show p.actors.length≤2000000 by omega)];rfl
 ·have:=sI x hx
  have:=TR.tv TR.cY hf;omega
 ·have:=TR.tv TR.cY hf
  omega
 ·have h1:=TR.tv TR.gM hf
  rw[TR.wM]at h1;have h2:=CZ f.ns;exact⟨show f.ns.length≤_ by omega,show TR.wE f.body≤_ by omega⟩
 ·have h1:=uf TR.cY lF Ms p.funcs
  have h2:=uf TR.gM lA OY p.actors
  have h3:∀l:List TR.w6,(oE l).length≤PV.cH (l.map TR.hY):=by
   intro l
   induction l with
   |nil=>simp[oE]
   |cons x r ih=>
    have h1:=uf TR.cY lF Ms x.funcs;have h2:=TR.wz x;simp only[oE,List.map_cons,List.flatMap_cons,List.length_append,PV.cH]at ih ⊢;omega
  have h3:=h3 p.impls;unfold kD;rw[List.length_append,List.length_append];omega
theorem KK {K:Ks} {S S1:Ss} {m:Nat} {name:ByteArray} {st:List Ov} {self e:Int} (h:lI K S m name st self=some (S1,.error e)):(e==0)=false:=by
 unfold lI at h
 repeat' split at h
 all_goals first|(cases h;rfl)|cases h
theorem yC (K:Ks) (S:Ss) (zr:bf Rn) (m:Nat) (name:ByteArray) (st:List Ov) (fuels:List Int) (hf:fuels.length≤2000000) (l:List mK) (R:Option (List Ou)) (S':Ss) (r':Option Rn) (h:gz K S m name st fuels l=some (R,S',r')):
 av Tryz.prog 13 [.p (.uq 35 (.bH mS m)),.p (.s name),.p (.sl 4 (gK st)),.p (.sl 1 (fuels.map mz)),.p (.sl 5 (eX l))] (hA K S zr) (xd R) (hA K S' (Pk zr r')):=by
 unfold gz at h
 cases hm:lI K S m name st 7 with
 |none=>rw[hm]at h;cases h
 |some P=>
  obtain⟨S1,e|r⟩:=P
  ·rw[hm]at h
   cases h;exact HX K S zr m name st fuels l _ e (KK hm) hm
  ·rw[hm]at h
   dsimp only at h
   cases hp:eW K fuels 60001 0 S1 r 1000 0 l [] with
   |none=>rw[hp]at h;cases h
   |some Q=>
    rw[hp]at h;obtain⟨R0,S2,r2⟩:=Q;cases h
    cases fuels with
    |nil=>exact xC K S zr m name st l _ r (R,S',r2) hm hp
    |cons a b=>exact DI K S zr m name st a b hf l _ r (R,S',r2) hm hp
end MN
end
section
open Go Go.AM Go.Proofs
set_option maxRecDepth 100000
namespace TR
theorem qH {α:Type} {f:α→PV}:∀{l:List α},(∀x∈l,bA (f x)=true)→aU (l.map f)=true
 | [],_=>rfl
 |x::r,h=>by rw[List.map_cons,aU,h x List.mem_cons_self,qH fun y hy=>h y (List.mem_cons_of_mem _ hy)];rfl
theorem GX:∀{l m:List PV},aU l=true→aU m=true→aU (l++m)=true
 | [],_,_,h=>h
 |x::r,m,h,q=>by rw[aU,Bool.and_eq_true]at h;rw[List.cons_append,aU,h.1,GX h.2 q];rfl
theorem N0 {x:PV} (h:bA x=true):aU x.cells=true:=by
 cases x<;>first|(simpa[PV.cells,aU,bA] using h)
theorem O7 (l:List ByteArray):aU (l.map bE)=true:=qH fun _ _=>rfl
theorem PO (t:Ty):bA (eT t)=true:=by
 induction t using Ty.ind with
 |h k n xs ih=>rw[eT,bA,aU,aU,aU,bA,bA,bA,kC,qH ih];rfl
theorem L8 (l:List Ty):aU (lK l)=true:=by rw[kC];exact qH fun t _=>PO t
theorem PJ (t:Pt):bA (eP t)=true:=by
 induction t using Pt.ind with
 |h k n t xs ih=>rw[eP,bA,aU,aU,aU,aU,bA,bA,bA,bA,mq,qH ih];rfl
theorem Qp (e:Ex):bA (eE e)=true:=by
 induction e using Ex.ind with
 |h k n t ns ts xs ms p h1 h2=>
  have h3:aU (jF ms)=true:=by
   rw[kq];refine qH fun a ha=>?_;obtain⟨p,e⟩:=a;rw[eA,bA];exact GX (N0 (PJ p)) (N0 (h2 _ ha))
  have h4:aU (eg xs)=true:=by rw[iI];exact qH h1
  simp only[eE,bA,aU,O7,L8,h3,h4,Bool.and_self]
theorem Py (f:zU):bA (cY f)=true:=by
 have:=GX (N0 (PO f.out)) (N0 (Qp f.body));simp only[cY,bA,aU,O7,L8,this,Bool.and_self]
theorem Jx (l:List zU):aU (l.map cY)=true:=qH fun f _=>Py f
theorem PG (f:JS):bA (gM f)=true:=by
 have:=GX (N0 (PO f.msg)) (N0 (Qp f.body));simp only[gM,bA,aU,O7,L8,this,Bool.and_self]
theorem PZ (p:oH):bA (kW p)=true:=by
 have h1:aU (p.uses.map ko)=true:=qH fun _ _=>rfl
 have h2:aU (p.datas.map kg)=true:=qH fun d _=>by
  have:aU (d.makes.map uJ)=true:=qH fun m _=>by simp only[uJ,bA,aU,L8,Bool.and_self]
  simp only[kg,bA,aU,O7,this,Bool.and_self]
 have h3:aU (p.traits.map kj)=true:=qH fun d _=>by simp only[kj,bA,aU,Jx,Bool.and_self]
 have h4:aU (p.impls.map hY)=true:=qH fun d _=>by simp only[hY,bA,aU,Jx,Bool.and_self]
 have h5:aU (p.actors.map gM)=true:=qH fun f _=>PG f;simp only[kW,bA,aU,h1,h2,h3,h4,Jx,h5,Bool.and_self]
end TR
namespace MN
mutual
theorem Qt:∀v:Ov,bA (eO v)=true
 |.mk k n t l=>by simp only[eO,bA,aU,Lj l,Bool.and_self]
theorem Lj:∀l:List Ov,aU (gK l)=true
 | []=>rfl
 |a::r=>by rw[gK,aU,Qt a,Lj r];rfl
end
theorem P7 (l:List mK):aU (eX l)=true:=TR.qH fun s _=>by
 obtain⟨a,k,n,t,l⟩:=s;simp only[HE,bA,aU,Lj l,Bool.and_self]
theorem Qr (l:List Int):aU (l.map mz)=true:=TR.qH fun _ _=>rfl
end MN
end
section
open Go Go.AM Go.Proofs TK
set_option maxRecDepth 100000
namespace MN
theorem Qb:Pz K0:=⟨fun _ h=>(by cases h),fun _ h=>(by cases h),fun _ h=>(by cases h),fun _ h=>(by cases h),fun _ h=>(by cases h)⟩
theorem NX:HJ S0:=⟨fun _ h=>(by cases h),fun _ h=>(by cases h),fun _ h=>(by cases h),fun _ h=>(by cases h),rfl⟩
end MN
end
section
open Go Go.AM Go.Proofs TK
set_option maxRecDepth 100000
namespace MN
theorem IZ (ev:Value) (p:TR.oH) (name:ByteArray) (st:List Ov) (fa fb:List Int) (ha:fa.length≤2000000) (hb:fb.length≤2000000) (l:List mK) (b:Bool) (K1 K2:Ks) (R R2:Option (List Ou)) (S1 S2:Ss) (r1 r2:Option Rn)
 (hs:av Tryz.prog 17 [.p (TR.kW p)] [] (.p (.b b)) [])
 (hm:av Tryz.prog 11 [] (PA.hE ev) (.p (.b true)) (PA.hE ev))
 (n1:newF p K0=some K1) (n2:newF p K1=some K2)
 (p1:gz K1 S0 0 name st fa l=some (R,S1,r1)) (p2:gz K2 S1 K1.mm.1 name st fb l=some (R2,S2,r2))
 (hR:∀x,R=some x→qR 0 x) (hq:∀x y,R=some x→R2=some y→x=y):∃K S zr,av Tryz.prog 7 [.p (TR.kW p),.p (.s name),.p (.sl 4 (gK st)),.p (.sl 1 (fa.map mz)),.p (.sl 1 (fb.map mz)),.p (.sl 5 (eX l))] (PA.hE ev++N3 K0 S0 (0,[])) (.p (.b true)) (PA.hE ev++N3 K S zr):=by
 have hn1:=ym K0 p K1 n1;have hn2:=ym K1 p K2 n2;have q1:=yC K1 S0 (0,[]) 0 name st fa ha l R S1 r1 p1;have q2:=yC K2 S1 (Pk (0,[]) r1) K1.mm.1 name st fb hb l R2 S2 r2 p2;clear n1 n2 p1 p2;generalize K1.mm.1=k1 at hn2 q2;generalize fa.map mz=fa at *;generalize fb.map mz=fb at *;obtain⟨pn,pv,pu,pd,pt,pi',pf,pa⟩:=p;unfold PA.hE at *;unfold N3 TR.kW hK hA xd at *
 cases b with
 |false=>
  refine⟨K0,S0,(0,[]),?_⟩;refine av.intro (ah Tryz.prog) aC Tryz.func7 rfl (by rfl) (by kernel_rfl) (by show 6≤_;decide) rfl ?_;(conv=>whnf);refine bh [] 500 hs ?_;(conv=>whnf);exact⟨.inl rfl,⟨⟨rfl,rfl⟩,s6,s6,s6,s6,s6,s6,s6,s6,s6,s6,s6,s6,s6,s6,s6,s6,trivial⟩⟩
 |true=>
  refine⟨K2,S2,Pk (Pk (0,[]) r1) r2,?_⟩
  cases R with
  |none=>
   refine av.intro (ah Tryz.prog) aC Tryz.func7 rfl (by rfl) (by kernel_rfl) (by show 6≤_;decide) rfl ?_;(conv=>whnf);refine bh [] 500 hs ?_;(conv=>whnf);refine bh [1000000000] 500 hm ?_;(conv=>whnf);refine bh [1000000003,1000000004,1000000005,1000000010,1000000011,1000000012,1000000013,1000000014,1000000015] 500 hn1 ?_;(conv=>whnf);refine bh iD 500 q1 ?_;(conv=>whnf);refine bh [1000000003,1000000004,1000000005,1000000010,1000000011,1000000012,1000000013,1000000014,1000000015] 500 hn2 ?_;(conv=>whnf);refine bh iD 500 q2 ?_;(conv=>whnf);exact⟨.inl rfl,⟨⟨rfl,rfl⟩,s6,s6,s6,s6,s6,s6,s6,s6,s6,s6,s6,s6,s6,s6,s6,s6,trivial⟩⟩
  |some x=>
   cases R2 with
   |none=>
    refine av.intro (ah Tryz.prog) aC Tryz.func7 rfl (by rfl) (by kernel_rfl) (by show 6≤_;decide) rfl ?_;(conv=>whnf);refine bh [] 500 hs ?_;(conv=>whnf);refine bh [1000000000] 500 hm ?_;(conv=>whnf);refine bh [1000000003,1000000004,1000000005,1000000010,1000000011,1000000012,1000000013,1000000014,1000000015] 500 hn1 ?_;(conv=>whnf);refine bh iD 500 q1 ?_;(conv=>whnf);refine bh [1000000003,1000000004,1000000005,1000000010,1000000011,1000000012,1000000013,1000000014,1000000015] 500 hn2 ?_;(conv=>whnf);refine bh iD 500 q2 ?_;(conv=>whnf);exact⟨.inl rfl,⟨⟨rfl,rfl⟩,s6,s6,s6,s6,s6,s6,s6,s6,s6,s6,s6,s6,s6,s6,s6,s6,trivial⟩⟩
   |some y=>
    have hxy:=hq x y rfl rfl;subst hxy;have hso:aV Tryz.prog 18 [.p (.sl 8 (sC ((some x:Option (List Ou)).getD []))),.p (.sl 8 (sC ((some x:Option (List Ou)).getD [])))] (.p (.b true)):=Iq x (by have:=(hR x rfl).2;omega) (hR x rfl).1;refine av.intro (ah Tryz.prog) aC Tryz.func7 rfl (by rfl) (by kernel_rfl) (by show 6≤_;decide) rfl ?_;(conv=>whnf);refine bh [] 500 hs ?_;(conv=>whnf);refine bh [1000000000] 500 hm ?_;(conv=>whnf);refine bh [1000000003,1000000004,1000000005,1000000010,1000000011,1000000012,1000000013,1000000014,1000000015] 500 hn1 ?_;(conv=>whnf);refine bh iD 500 q1 ?_;(conv=>whnf);refine bh [1000000003,1000000004,1000000005,1000000010,1000000011,1000000012,1000000013,1000000014,1000000015] 500 hn2 ?_;(conv=>whnf);refine bh iD 500 q2 ?_;(conv=>whnf);refine jA hso ?_;(conv=>whnf);exact⟨.inl rfl,⟨⟨rfl,rfl⟩,s6,s6,s6,s6,s6,s6,s6,s6,s6,s6,s6,s6,s6,s6,s6,s6,trivial⟩⟩
theorem zS (ev:Value) (hev:ev=.nilIface∨∃te pe,ev=.iface te pe) (p:TR.oH) (hp:TR.uY p≤1048576) (name:ByteArray) (st:List Ov) (fa fb:List Int) (ha:fa.length≤2000000) (hb:fb.length≤2000000) (l:List mK) (hi:OK st l):av Tryz.prog 7 [.p (TR.kW p),.p (.s name),.p (.sl 4 (gK st)),.p (.sl 1 (fa.map mz)),.p (.sl 1 (fb.map mz)),.p (.sl 5 (eX l))] (PA.hE ev) (.p (.b true)) (PA.hE ev):=by
 have h:=M9 p hp;obtain⟨K1,n1,k1,o1⟩:=Kc h Qb;obtain⟨K2,n2,k2,o2⟩:=Kc h k1;obtain⟨R,S1,r1,S1',r1',a1,a2,a3,a4,a5⟩:=vr h o1 o1 NX NX name fa hi;obtain⟨R2,S2,r2,S2',r2',b1,b2,b3,b4,b5⟩:=vr h o2 o2 a3 a3 name fb hi;obtain⟨K,S,zr,hx⟩:=IZ ev p name st fa fb ha hb l _ K1 K2 R R2 S1 S2 r1 r2 (TR.Fz p hp) (Eo ev hev) n1 n2 a1 b1 a5 (fun x y e1 e2=>by subst e1;subst e2;exact Dd h o1 o2 NX a3 name fa fb hi a1 b1);exact av.O1 hx (by simp only[List.all_cons,List.all_nil,uU,bA,TR.PZ,Lj,P7,Qr,Bool.and_self]) rfl rfl rfl
end MN
end
section
open Go Go.Proofs
namespace Go.AM
theorem Dh {P:Program} {W:World} {name:String} {d:DataW Unit} {g:Nat} {t:TypeId} (hg:P.globalNamed name=some g) (hty:(P.globals[g]?).map (·.type)=some t) (ht:(match P.underlying t with|some (.interface _)=>true|_=>false)=true)
 (h:Lib.VarReads P W name d):∃ev:Value,(ev=.nilIface∨∃te pe,ev=.iface te pe)∧∃(E:TypeId) (fr:Nat×Nat),W.heap[g]?=some (.cells [ev].toArray E fr):=by
 obtain⟨g',t',cs,fuel,p,hg',ht',hvar,hd⟩:=h;obtain rfl:=Option.some.inj (hg.symm.trans hg');obtain rfl:=Option.some.inj (hty.symm.trans ht')
 have hcs:∃ev:Value,(ev=.nilIface∨∃te pe,ev=.iface te pe)∧cs=[ev].toArray:=by
  cases fuel with
  |zero=>simp[DataW.trod]at hd
  |succ fuel=>
   split at ht
   ·rename_i x hx
    simp only[DataW.trod,hx]at hd;split at hd
    all_goals first|(rename_i h1 _;cases h1;done)|(rename_i h1;cases h1;done)|(cases hd;done)|skip
    ·rename_i _ h2
     exact⟨.nilIface,.inl rfl,by rw[←h2]⟩
    ·rename_i _ h2
     exact⟨_,.inr ⟨_,_,rfl⟩,by rw[←h2]⟩
   ·cases ht
 obtain⟨ev,h1,h2⟩:=hcs;refine⟨ev,h1,?_⟩;unfold World.var? at hvar;rw[hg]at hvar;simp only[Option.bind_some]at hvar;split at hvar
 ·rename_i cs' E fr hb
  simp only[Option.some.injEq]at hvar;exact⟨E,fr,by rw[hb,hvar,h2]⟩
 ·cases hvar
end Go.AM
end
section
open Go Go.AM Go.Proofs
set_option maxRecDepth 100000
namespace Go.Proofs.YtdmopjgjhfhfdaaGreatDoor
theorem Tryz.own:ownKnob Tryz.prog.godebug=none:=by kernel_rfl
theorem Tryz.zC:Tryz.prog.globalNamed "strconv.ErrRange"=some 2:=by kernel_rfl
theorem Jm {l:List (String×DataW Unit)} {W:World} (h:laidMetH Tryz.prog l W) (hm:("strconv.ErrRange",(Rows.laid_strconv_ErrRange:DataW Unit))∈l):∃ev:Value,(ev=.nilIface∨∃te pe,ev=.iface te pe)∧∃(E:TypeId) (fr:Nat×Nat),W.heap[2]?=some (.cells [ev].toArray E fr):=by
 have h1:=Lib.laidMet.reads (laidMetH_iff.1 h).1 (n:= "strconv.ErrRange") (d:=Rows.laid_strconv_ErrRange) (List.mem_filter.2 ⟨hm,by kernel_rfl⟩);exact Dh (t:=224) Tryz.zC (by kernel_rfl) (by kernel_rfl) h1
end Go.Proofs.YtdmopjgjhfhfdaaGreatDoor
end
section
open Go Go.AM Go.Proofs TR
set_option maxRecDepth 100000
namespace Go.Proofs.YtdmopjgjhfhfdaaGreatDoor
mutual
theorem lU {H:Type}:∀(d:DataW H),Rows.uptoBulk d=eD d
 |.lit (.string _)=>by simp[Rows.uptoBulk,eD]
 |.lit (.bool _)=>by simp[Rows.uptoBulk,eD]
 |.lit (.int _ _)=>by simp[Rows.uptoBulk,eD]
 |.lit (.float _ _)=>by simp[Rows.uptoBulk,eD]
 |.lit .nil=>by simp[Rows.uptoBulk,eD]
 |.nil=>by simp[Rows.uptoBulk,eD]
 |.ptr d=>by simp[Rows.uptoBulk,eD,lU d]
 |.slice a b=>by simp[Rows.uptoBulk,eD,lC a,lC b]
 |.agg a=>by simp[Rows.uptoBulk,eD,lC a]
 |.iface _ d=>by simp[Rows.uptoBulk,eD,lU d]
 |.map es=>by simp[Rows.uptoBulk,eD,pT es]
 |.held _=>by simp[Rows.uptoBulk,eD]
theorem lC {H:Type}:∀(d:List (DataW H)),Rows.uptoBulkAll d=cU d
 | []=>by simp[Rows.uptoBulkAll,cU]
 |x::r=>by simp[Rows.uptoBulkAll,cU,lU x,lC r]
theorem pT {H:Type}:∀(d:List (Lit×DataW H)),Rows.uptoBulkEntries d=jP d
 | []=>by simp[Rows.uptoBulkEntries,jP]
 |x::r=>by simp[Rows.uptoBulkEntries,jP,A0 x,pT r]
theorem A0 {H:Type}:∀(d:Lit×DataW H),Rows.uptoBulkEntry d=js d
 |(.string _,d)=>by simp[Rows.uptoBulkEntry,js,lU d]
 |(.bool _,d)=>by simp[Rows.uptoBulkEntry,js,lU d]
 |(.int _ _,d)=>by simp[Rows.uptoBulkEntry,js,lU d]
 |(.float _ _,d)=>by simp[Rows.uptoBulkEntry,js,lU d]
 |(.nil,d)=>by simp[Rows.uptoBulkEntry,js,lU d]
end
theorem I0 {H:Type} {ds:List (DataW H)} (h:Rows.uptoSmall H ds=true):cU ds≤1048576:=by
 rw[←lC];exact of_decide_eq_true h
theorem Gc (y:PV) (h:TP Tryz.prog 9 [y]):∃d,y=bE d∧True:=by
 obtain⟨s,e,_⟩:=iw (by kernel_rfl) h;cases e;exact⟨s,rfl,trivial⟩
theorem xX:∀(n:Nat) (cs:List PV),SizeOf.sizeOf cs<n→TP Tryz.prog 97 cs→∃t,PV.agg cs=eT t∧True
 |0,cs,hn,_=>by omega
 |n+1,cs,hn,h=>by
  obtain⟨hl,hf⟩:=dM (n:=3) (l:=[(0,3,1),(1,9,1),(2,88,1)]) (by kernel_rfl) h
  match cs,hl with
  | [a,b,c],_=>
    obtain⟨k,e1,_⟩:=jt (k:=.i64) (by kernel_rfl) (hf (0,3,1) (by simp));obtain⟨s,e2,_⟩:=iw (by kernel_rfl) (hf (1,9,1) (by simp));obtain⟨xs,e3,hb,hc,ha⟩:=lJ (e:=97) (c:=3) (b:=48) (agg:=true) (by kernel_rfl) (hf (2,88,1) (by simp))
    cases e1;cases e2;cases e3
    obtain⟨l,rfl,_⟩:=jT (enc:=eT) (Q:=fun _=>True) xs (fun y hy=>by
     obtain⟨ys,rfl⟩:=(ha y hy).1 rfl;have h1:=List.sizeOf_lt_of_mem hy;exact xX n ys (by simp at hn h1;omega) (hc _ hy))
    exact⟨.mk k s l,by rw[eT,kC],trivial⟩
theorem Gi:∀(n:Nat) (cs:List PV),SizeOf.sizeOf cs<n→TP Tryz.prog 164 cs→∃t,PV.agg cs=eP t∧True
 |0,cs,hn,_=>by omega
 |n+1,cs,hn,h=>by
  obtain⟨hl,hf⟩:=dM (n:=4) (l:=[(0,3,1),(1,3,1),(2,9,1),(3,162,1)]) (by kernel_rfl) h
  match cs,hl with
  | [a,b,c,d],_=>
    obtain⟨k,e1,_⟩:=jt (k:=.i64) (by kernel_rfl) (hf (0,3,1) (by simp));obtain⟨m,e4,wm⟩:=jt (k:=.i64) (by kernel_rfl) (hf (1,3,1) (by simp));obtain⟨s,e2,_⟩:=iw (by kernel_rfl) (hf (2,9,1) (by simp));obtain⟨xs,e3,hb,hc,ha⟩:=lJ (e:=164) (c:=4) (b:=56) (agg:=true) (by kernel_rfl) (hf (3,162,1) (by simp))
    cases e1;cases e2;cases e3;cases e4
    obtain⟨l,rfl,_⟩:=jT (enc:=eP) (Q:=fun _=>True) xs (fun y hy=>by
     obtain⟨ys,rfl⟩:=(ha y hy).1 rfl;have h1:=List.sizeOf_lt_of_mem hy;exact Gi n ys (by simp at hn h1;omega) (hc _ hy))
    exact⟨.mk k m s l,by rw[eP,mq],trivial⟩
theorem Hz (a b:List PV):SizeOf.sizeOf b≤SizeOf.sizeOf (a++b):=by
 induction a with
 |nil=>simp
 |cons x r ih=>simp;omega
theorem BN:∀(n:Nat) (cs:List PV),SizeOf.sizeOf cs<n→TP Tryz.prog 101 cs→∃t,PV.agg cs=eE t∧True
 |0,cs,hn,_=>by omega
 |n+1,cs,hn,h=>by
  obtain⟨hl,hf⟩:=dM (n:=8) (l:=[(0,3,1),(1,3,1),(2,9,1),(3,53,1),(4,88,1),(5,98,1),(6,99,1),(7,3,1)]) (by kernel_rfl) h
  match cs,hl with
  | [a0,a1,a2,a3,a4,a5,a6,a7],_=>
    obtain⟨k,e0,_⟩:=jt (k:=.i64) (by kernel_rfl) (hf (0,3,1) (by simp));obtain⟨m,e1,_⟩:=jt (k:=.i64) (by kernel_rfl) (hf (1,3,1) (by simp));obtain⟨s,e2,_⟩:=iw (by kernel_rfl) (hf (2,9,1) (by simp));obtain⟨ns,e3,_⟩:=zm (e:=9) (c:=1) (b:=16) (by kernel_rfl) (hf (3,53,1) (by simp)) Gc;obtain⟨ts,e4,_⟩:=gB (e:=97) (c:=3) (b:=48) (enc:=eT) (Q:=fun _=>True) (by kernel_rfl) (hf (4,88,1) (by simp)) (fun cs hcs=>xX _ cs (Nat.lt_succ_self _) hcs);obtain⟨xs,e5,_,hc5,ha5⟩:=lJ (e:=101) (c:=8) (b:=136) (agg:=true) (by kernel_rfl) (hf (5,98,1) (by simp));obtain⟨ms,e6,_,hc6,ha6⟩:=lJ (e:=166) (c:=12) (b:=192) (agg:=true) (by kernel_rfl) (hf (6,99,1) (by simp));obtain⟨p,e7,_⟩:=jt (k:=.i64) (by kernel_rfl) (hf (7,3,1) (by simp))
    cases e0;cases e1;cases e2;cases e3;cases e4;cases e5;cases e6;cases e7
    obtain⟨l5,rfl,_⟩:=jT (enc:=eE) (Q:=fun _=>True) xs (fun y hy=>by
     obtain⟨ys,rfl⟩:=(ha5 y hy).1 rfl;have h1:=List.sizeOf_lt_of_mem hy;exact BN n ys (by simp at hn h1;omega) (hc5 _ hy))
    obtain⟨l6,rfl,_⟩:=jT (enc:=eA) (Q:=fun _=>True) ms (fun y hy=>by
     obtain⟨ys,rfl⟩:=(ha6 y hy).1 rfl;have h1:=List.sizeOf_lt_of_mem hy;obtain⟨hl6,hf6⟩:=dM (n:=12) (l:=[(0,164,4),(4,101,8)]) (by kernel_rfl) (hc6 _ hy);simp only[PV.cells]at hl6 hf6;obtain⟨q1,w1,_⟩:=Gi _ _ (Nat.lt_succ_self _) (hf6 (0,164,4) (by simp));have hd:(ys.drop 4).take 8=ys.drop 4:=List.take_of_length_le (by simp;omega);have hs:=Hz (ys.take 4) (ys.drop 4);rw[List.take_append_drop]at hs;have h2:=hf6 (4,101,8) (by simp);simp only[hd]at h2;obtain⟨q2,w2,_⟩:=BN n (ys.drop 4) (by simp at hn h1;omega) h2;refine⟨.mk q1 q2,?_,trivial⟩;rw[eA,←w1,←w2];simp only[PV.cells,List.drop_zero,List.take_append_drop])
    exact⟨.mk k m s ns ts l5 l6 p,by rw[eE,kC,iI,kq],trivial⟩
theorem wH {x:PV} (h:TP Tryz.prog 53 [x]):∃l:List ByteArray,x=.sl 1 (l.map bE):=by
 obtain⟨ns,e3,_⟩:=zm (e:=9) (c:=1) (b:=16) (by kernel_rfl) h Gc;cases e3;exact⟨ns,rfl⟩
theorem Bf {x:PV} (h:TP Tryz.prog 88 [x]):∃l:List Ty,x=.sl 3 (lK l):=by
 obtain⟨ts,e4,_⟩:=gB (e:=97) (c:=3) (b:=48) (enc:=eT) (Q:=fun _=>True) (by kernel_rfl) h (fun cs hcs=>xX _ cs (Nat.lt_succ_self _) hcs)
 cases e4;exact⟨ts,by rw[kC]⟩
theorem Ky (cs:List PV) (h:TP Tryz.prog 193 cs):∃f:NJ,PV.agg cs=ko f∧True:=by
 obtain⟨hl,hf⟩:=dM (n:=3) (l:=[(0,9,1),(1,3,1),(2,3,1)]) (by kernel_rfl) h
 match cs,hl with
 | [a0,a1,a2],_=>
   obtain⟨s,e0,_⟩:=iw (by kernel_rfl) (hf (0,9,1) (by simp));obtain⟨k,e1,_⟩:=jt (k:=.i64) (by kernel_rfl) (hf (1,3,1) (by simp));obtain⟨m,e2,_⟩:=jt (k:=.i64) (by kernel_rfl) (hf (2,3,1) (by simp))
   cases e0;cases e1;cases e2
   exact⟨⟨s,k,m⟩,rfl,trivial⟩
theorem Bz (cs:List PV) (h:TP Tryz.prog 103 cs):∃f:zU,PV.agg cs=cY f∧True:=by
 obtain⟨hl,hf⟩:=dM (n:=15) (l:=[(0,9,1),(1,53,1),(2,53,1),(3,88,1),(4,97,3),(7,101,8)]) (by kernel_rfl) h
 match cs,hl with
 | [a0,a1,a2,a3,b1,b2,b3,c1,c2,c3,c4,c5,c6,c7,c8],_=>
   obtain⟨s,e0,_⟩:=iw (by kernel_rfl) (hf (0,9,1) (by simp));obtain⟨l1,e1⟩:=wH (hf (1,53,1) (by simp));obtain⟨l2,e2⟩:=wH (hf (2,53,1) (by simp));obtain⟨l3,e3⟩:=Bf (hf (3,88,1) (by simp));obtain⟨t,e4,_⟩:=xX _ [b1,b2,b3] (Nat.lt_succ_self _) (hf (4,97,3) (by simp));obtain⟨e,e5,_⟩:=BN _ [c1,c2,c3,c4,c5,c6,c7,c8] (Nat.lt_succ_self _) (hf (7,101,8) (by simp))
   cases e0;subst e1;subst e2;subst e3
   refine⟨⟨s,l1,l2,l3,t,e⟩,?_,trivial⟩;rw[cY,←e4,←e5];rfl
theorem LN (cs:List PV) (h:TP Tryz.prog 106 cs):∃f:w6,PV.agg cs=hY f∧True:=by
 obtain⟨hl,hf⟩:=dM (n:=3) (l:=[(0,9,1),(1,9,1),(2,27,1)]) (by kernel_rfl) h
 match cs,hl with
 | [a0,a1,a2],_=>
   obtain⟨s,e0,_⟩:=iw (by kernel_rfl) (hf (0,9,1) (by simp));obtain⟨u,e1,_⟩:=iw (by kernel_rfl) (hf (1,9,1) (by simp));obtain⟨fs,e2,_⟩:=gB (e:=103) (c:=15) (b:=272) (enc:=cY) (Q:=fun _=>True) (by kernel_rfl) (hf (2,27,1) (by simp)) (fun cs hcs=>Bz cs hcs)
   cases e0;cases e1;cases e2
   exact⟨⟨s,u,fs⟩,rfl,trivial⟩
theorem LQ (cs:List PV) (h:TP Tryz.prog 90 cs):∃f:Oa,PV.agg cs=uJ f∧True:=by
 obtain⟨hl,hf⟩:=dM (n:=2) (l:=[(0,9,1),(1,88,1)]) (by kernel_rfl) h
 match cs,hl with
 | [a0,a1],_=>
   obtain⟨s,e0,_⟩:=iw (by kernel_rfl) (hf (0,9,1) (by simp));obtain⟨l3,e3⟩:=Bf (hf (1,88,1) (by simp))
   cases e0;subst e3
   exact⟨⟨s,l3⟩,rfl,trivial⟩
theorem L5 (cs:List PV) (h:TP Tryz.prog 87 cs):∃f:Oh,PV.agg cs=kg f∧True:=by
 obtain⟨hl,hf⟩:=dM (n:=3) (l:=[(0,9,1),(1,53,1),(2,85,1)]) (by kernel_rfl) h
 match cs,hl with
 | [a0,a1,a2],_=>
   obtain⟨s,e0,_⟩:=iw (by kernel_rfl) (hf (0,9,1) (by simp));obtain⟨l1,e1⟩:=wH (hf (1,53,1) (by simp));obtain⟨fs,e2,_⟩:=gB (e:=90) (c:=2) (b:=40) (enc:=uJ) (Q:=fun _=>True) (by kernel_rfl) (hf (2,85,1) (by simp)) (fun cs hcs=>LQ cs hcs)
   cases e0;subst e1;cases e2
   exact⟨⟨s,l1,fs⟩,rfl,trivial⟩
theorem LS (cs:List PV) (h:TP Tryz.prog 95 cs):∃f:OC,PV.agg cs=kj f∧True:=by
 obtain⟨hl,hf⟩:=dM (n:=2) (l:=[(0,9,1),(1,27,1)]) (by kernel_rfl) h
 match cs,hl with
 | [a0,a1],_=>
   obtain⟨s,e0,_⟩:=iw (by kernel_rfl) (hf (0,9,1) (by simp));obtain⟨fs,e2,_⟩:=gB (e:=103) (c:=15) (b:=272) (enc:=cY) (Q:=fun _=>True) (by kernel_rfl) (hf (1,27,1) (by simp)) (fun cs hcs=>Bz cs hcs)
   cases e0;cases e2
   exact⟨⟨s,fs⟩,rfl,trivial⟩
theorem L3 (cs:List PV) (h:TP Tryz.prog 115 cs):∃f:JS,PV.agg cs=gM f∧True:=by
 obtain⟨hl,hf⟩:=dM (n:=14) (l:=[(0,9,1),(1,53,1),(2,88,1),(3,97,3),(6,101,8)]) (by kernel_rfl) h
 match cs,hl with
 | [a0,a1,a3,b1,b2,b3,c1,c2,c3,c4,c5,c6,c7,c8],_=>
   obtain⟨s,e0,_⟩:=iw (by kernel_rfl) (hf (0,9,1) (by simp));obtain⟨l1,e1⟩:=wH (hf (1,53,1) (by simp));obtain⟨l3,e3⟩:=Bf (hf (2,88,1) (by simp));obtain⟨t,e4,_⟩:=xX _ [b1,b2,b3] (Nat.lt_succ_self _) (hf (3,97,3) (by simp));obtain⟨e,e5,_⟩:=BN _ [c1,c2,c3,c4,c5,c6,c7,c8] (Nat.lt_succ_self _) (hf (6,101,8) (by simp))
   cases e0;subst e1;subst e3
   refine⟨⟨s,l1,l3,t,e⟩,?_,trivial⟩;rw[gM,←e4,←e5];rfl
theorem Lb (cs:List PV) (h:TP Tryz.prog 30 cs):∃f:oH,PV.agg cs=kW f∧True:=by
 obtain⟨hl,hf⟩:=dM (n:=8) (l:=[(0,9,1),(1,3,1),(2,23,1),(3,24,1),(4,25,1),(5,26,1),(6,27,1),(7,28,1)]) (by kernel_rfl) h
 match cs,hl with
 | [a0,a1,a2,a3,a4,a5,a6,a7],_=>
   obtain⟨s,e0,_⟩:=iw (by kernel_rfl) (hf (0,9,1) (by simp));obtain⟨n,e1,_⟩:=jt (k:=.i64) (by kernel_rfl) (hf (1,3,1) (by simp));obtain⟨l2,e2,_⟩:=gB (e:=193) (c:=3) (b:=32) (enc:=ko) (Q:=fun _=>True) (by kernel_rfl) (hf (2,23,1) (by simp)) (fun cs hcs=>Ky cs hcs);obtain⟨l3,e3,_⟩:=gB (e:=87) (c:=3) (b:=64) (enc:=kg) (Q:=fun _=>True) (by kernel_rfl) (hf (3,24,1) (by simp)) (fun cs hcs=>L5 cs hcs);obtain⟨l4,e4,_⟩:=gB (e:=95) (c:=2) (b:=40) (enc:=kj) (Q:=fun _=>True) (by kernel_rfl) (hf (4,25,1) (by simp)) (fun cs hcs=>LS cs hcs);obtain⟨l5,e5,_⟩:=gB (e:=106) (c:=3) (b:=56) (enc:=hY) (Q:=fun _=>True) (by kernel_rfl) (hf (5,26,1) (by simp)) (fun cs hcs=>LN cs hcs);obtain⟨l6,e6,_⟩:=gB (e:=103) (c:=15) (b:=272) (enc:=cY) (Q:=fun _=>True) (by kernel_rfl) (hf (6,27,1) (by simp)) (fun cs hcs=>Bz cs hcs);obtain⟨l7,e7,_⟩:=gB (e:=115) (c:=14) (b:=248) (enc:=gM) (Q:=fun _=>True) (by kernel_rfl) (hf (7,28,1) (by simp)) (fun cs hcs=>L3 cs hcs)
   cases e0;cases e1;cases e2;cases e3;cases e4;cases e5;cases e6;cases e7
   exact⟨⟨s,n,l2,l3,l4,l5,l6,l7⟩,rfl,trivial⟩
theorem FJ:∀(n:Nat) (cs:List PV),SizeOf.sizeOf cs<n→TP Tryz.prog 39 cs→∃t,PV.agg cs=MN.eO t∧True
 |0,cs,hn,_=>by omega
 |n+1,cs,hn,h=>by
  obtain⟨hl,hf⟩:=dM (n:=4) (l:=[(0,3,1),(1,3,1),(2,9,1),(3,37,1)]) (by kernel_rfl) h
  match cs,hl with
  | [a,b,c,d],_=>
    obtain⟨k,e1,_⟩:=jt (k:=.i64) (by kernel_rfl) (hf (0,3,1) (by simp));obtain⟨m,e2,_⟩:=jt (k:=.i64) (by kernel_rfl) (hf (1,3,1) (by simp));obtain⟨s,e3,_⟩:=iw (by kernel_rfl) (hf (2,9,1) (by simp));obtain⟨xs,e4,hb,hc,ha⟩:=lJ (e:=39) (c:=4) (b:=56) (agg:=true) (by kernel_rfl) (hf (3,37,1) (by simp))
    cases e1;cases e2;cases e3;cases e4
    obtain⟨l,rfl,_⟩:=jT (enc:=MN.eO) (Q:=fun _=>True) xs (fun y hy=>by
     obtain⟨ys,rfl⟩:=(ha y hy).1 rfl;have h1:=List.sizeOf_lt_of_mem hy;exact FJ n ys (by simp at hn h1;omega) (hc _ hy))
    exact⟨.mk k m s l,by rw[MN.eO,MN.qC],trivial⟩
theorem L9 {x:List PV} (h:TP Tryz.prog 37 x):∃l:List MN.Ov,x=[.sl 4 (MN.gK l)]:=by
 obtain⟨l,e,_⟩:=gB (e:=39) (c:=4) (b:=56) (enc:=MN.eO) (Q:=fun _=>True) (by kernel_rfl) h (fun cs hcs=>FJ _ cs (Nat.lt_succ_self _) hcs);exact⟨l,by rw[e,MN.qC]⟩
theorem K9 (cs:List PV) (h:TP Tryz.prog 66 cs):∃s:MN.mK,PV.agg cs=MN.HE s∧True:=by
 obtain⟨hl,hf⟩:=dM (n:=5) (l:=[(0,3,1),(1,39,4)]) (by kernel_rfl) h
 match cs,hl with
 | [a,b,c,d,e],_=>
   obtain⟨k,e1,_⟩:=jt (k:=.i64) (by kernel_rfl) (hf (0,3,1) (by simp));obtain⟨v,e2,_⟩:=FJ _ [b,c,d,e] (Nat.lt_succ_self _) (hf (1,39,4) (by simp));cases e1;obtain⟨w,m,t,l⟩:=v;rw[MN.eO]at e2
   injection e2 with e2
   simp only[List.cons.injEq,and_true]at e2;obtain⟨rfl,rfl,rfl,rfl⟩:=e2;exact⟨⟨k,.mk w m t l⟩,rfl,trivial⟩
theorem Kj {x:List PV} (h:TP Tryz.prog 49 x):∃l:List MN.mK,x=[.sl 5 (MN.eX l)]:=by
 obtain⟨l,e,_⟩:=gB (e:=66) (c:=5) (b:=64) (enc:=MN.HE) (Q:=fun _=>True) (by kernel_rfl) h (fun cs hcs=>K9 cs hcs);exact⟨l,e⟩
theorem Ec {x:List PV} (h:TP Tryz.prog 44 x):∃l:List Int,x=[.sl 1 (l.map MN.mz)]:=by
 obtain⟨l,e,_⟩:=zm (e:=3) (c:=1) (b:=8) (enc:=MN.mz) (Q:=fun _=>True) (by kernel_rfl) h (fun y hy=>by
  obtain⟨m,e1,_⟩:=jt (k:=.i64) (by kernel_rfl) hy;cases e1;exact⟨m,rfl,trivial⟩)
 exact⟨l,e⟩
mutual
theorem JP:∀v:MN.Ov,PV.wt (MN.eO v)≤1048576→MN.Dq v
 |.mk k n t l=>fun h=>by
  simp only[MN.eO,PV.wt,PV.cH]at h;obtain⟨h1,h2⟩:=BI l (by omega);rw[MN.Dq];exact⟨by omega,by omega,h2⟩
theorem BI:∀l:List MN.Ov,PV.cH (MN.gK l)≤1048576→l.length≤PV.cH (MN.gK l)∧MN.FE l
 | []=>fun _=>⟨Nat.zero_le _,by rw[MN.FE];trivial⟩
 |v::r=>fun h=>by
  rw[MN.gK,PV.cH]at h;have h1:=JP v (by omega);obtain⟨h2,h3⟩:=BI r (by omega)
  have h4:1≤PV.wt (MN.eO v):=by
   obtain⟨k,n,t,l⟩:=v;simp only[MN.eO,PV.wt,PV.cH];omega
  rw[MN.gK,PV.cH,List.length_cons,MN.FE];exact⟨by omega,h1,h3⟩
end
theorem MZ {st:List MN.Ov} {l:List MN.mK} (h1:PV.cH (MN.gK st)≤1048576) (h2:PV.cH (MN.eX l)≤1048576):MN.OK st l:=by
 obtain⟨a1,a2⟩:=BI st h1;refine⟨MN.yp a2,by omega,fun s hs=>JP _ ?_⟩;have:=tv MN.HE hs;unfold MN.eX at h2;obtain⟨a,k,n,t,q⟩:=s;simp only[MN.HE,MN.eO,PV.wt,PV.cH]at this ⊢;omega
end Go.Proofs.YtdmopjgjhfhfdaaGreatDoor
end
