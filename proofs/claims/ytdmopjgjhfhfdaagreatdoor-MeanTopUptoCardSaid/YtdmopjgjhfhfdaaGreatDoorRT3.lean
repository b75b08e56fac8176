/- Contracts, and the law, for every input. No conditions. -/
import Derived.Test.YtdmopjgjhfhfdaaGreatDoorMEX
import Derived.Test.YtdmopjgjhfhfdaaGreatDoorRows
import Derived.Test.YtdmopjgjhfhfdaaGreatDoorCards
import Derived.Test.YtdmopjgjhfhfdaaGreatDoorTie
import Derived.ChangeBears2
import Derived.Deep.DeepHandedRow
import Derived.Lay
import Derived.LaidSub
import Derived.Deep.DeepWitnessRowRef
set_option linter.all false
set_option maxRecDepth 100000
section
open Go Go.AM Go.Proofs TK
namespace MN
mutual
theorem zF:∀(e:TR.Ex),(nH e).length<=TR.wE e
 |.mk k n t ns ts xs ms p=>by
  have h1:=Dh xs;have h2:=En ms;have h3:=TR.tD k n t ns ts xs ms p;rw[nH,List.length_append,List.length_append]
  cases (k==10)&&!(Nat.beq xs.length 0)<;>simp<;>omega
theorem Dh:∀(l:List TR.Ex),(pM l).length<=PV.cH (TR.eC l)
 | []=>by simp[pM]
 |e::r=>by
  have h1:=zF e;have h2:=Dh r;unfold TR.wE at h1;rw[pM,List.length_append,TR.eC,PV.cH];omega
theorem En:∀(l:List TR.eZ),(pY l).length<=PV.cH (TR.jX l)
 | []=>by simp[pY]
 |.mk p e::r=>by
  have h1:=zF e;have h2:=En r;have h4:=TR.E5 p e;unfold TR.wA at h4;rw[pY,List.length_append,TR.jX,PV.cH];omega
end
theorem uX {α:Type} (f:α->PV) (g:α->QF) (h:∀x,TR.wE (g x).2.2<=PV.wt (f x)):∀l:List α,(iF (l.map g)).length<=PV.cH (l.map f)
 | []=>by simp[iF]
 |x::r=>by
  have h1:=zF (g x).2.2;have h2:=h x;have h3:=uX f g h r;simp only[iF,List.map_cons,List.flatMap_cons,List.length_append,PV.cH]at h3 ⊢;omega
theorem NG (f:TR.Ac):TR.wE (lF f).2.2<=PV.wt (TR.dj f):=by have:=TR.xL f;unfold TR.I8 at this;show TR.wE f.body<=_;omega
theorem Pv (f:TR.JN):TR.wE (lA f).2.2<=PV.wt (TR.gZ f):=by rw[TR.xI];show TR.wE f.body<=_;omega
theorem EN (l:List ByteArray):l.length<=PV.cH (l.map TR.bF):=TR.uj TR.bF (fun x=>by simp only[TR.bF,PV.wt];omega) l
theorem Ox (p:TR.nX) (hp:TR.vH p<=1048576):M6 p:=by
 have hw:=TR.qR p;have l1:=TR.Ep p.impls;have l2:=TR.mh p.funcs;have l3:=TR.zT p.actors;have l4:=TR.uj TR.kM (fun x=>by rw[TR.HV];omega) p.datas;have l5:=TR.uj TR.kN (fun x=>by rw[TR.H9];omega) p.traits
 have sF:∀f:TR.Ac,PV.wt (TR.dj f)<=1048576->Fa (lF f).2:=fun f h=>by
  have h1:=TR.xL f;unfold TR.I8 at h1;have h2:=EN f.ns;exact⟨show f.ns.length<=_ by omega,show TR.wE f.body<=_ by omega⟩
 have sI:∀x∈p.impls,PV.cH (x.funcs.map TR.dj)<=1048576:=fun x hx=>by
  have:=TR.tK TR.iI hx;rw[TR.xM]at this;omega
 refine⟨?_,fun x hx f hf=>sF f ?_,fun f hf=>sF f ?_,fun f hf=>?_,?_⟩
 ·have e1:(p.datas.all fun d=>Nat.ble d.makes.length 2000000)=true:=List.all_eq_true.2 fun d hd=>Nat.ble_eq_true_of_le (by
   have h1:=TR.tK TR.kM hd;rw[TR.HV]at h1;have:=TR.uj TR.vK (fun x=>by rw[TR.MC];omega) d.makes;omega)
  have e2:(p.traits.all fun t=>Nat.ble t.funcs.length 2000000)=true:=List.all_eq_true.2 fun d hd=>Nat.ble_eq_true_of_le (by
   have h1:=TR.tK TR.kN hd;rw[TR.H9]at h1;have:=TR.mh d.funcs;omega)
  have e3:(p.impls.all fun t=>Nat.ble t.funcs.length 2000000)=true:=List.all_eq_true.2 fun d hd=>Nat.ble_eq_true_of_le (by
   have h1:=sI d hd;have:=TR.mh d.funcs;omega)
  unfold IC;rw[e1,e2,e3,Nat.ble_eq_true_of_le (show p.datas.length<=2000000 by omega),Nat.ble_eq_true_of_le (show p.traits.length<=2000000 by omega),Nat.ble_eq_true_of_le (show p.impls.length<=2000000 by omega),Nat.ble_eq_true_of_le (show p.funcs.length<=2000000 by omega),Nat.ble_eq_true_of_le (show p.actors.length<=2000000 by omega)];rfl
 ·have:=sI x hx
  have:=TR.tK TR.dj hf;omega
 ·have:=TR.tK TR.dj hf
  omega
 ·have h1:=TR.tK TR.gZ hf
  rw[TR.xI]at h1;have h2:=EN f.ns;exact⟨show f.ns.length<=_ by omega,show TR.wE f.body<=_ by omega⟩
 ·have h1:=uX TR.dj lF NG p.funcs
  have h2:=uX TR.gZ lA Pv p.actors
  have h3:∀l:List TR.xF,(nK l).length<=PV.cH (l.map TR.iI):=by
   intro l
   induction l with
   |nil=>simp[nK]
   |cons x r ih=>
    have h1:=uX TR.dj lF NG x.funcs;have h2:=TR.xM x;simp only[nK,List.map_cons,List.flatMap_cons,List.length_append,PV.cH]at ih ⊢;omega
  have h3:=h3 p.impls;unfold hY;rw[List.length_append,List.length_append];omega
theorem D6 {K:Ks} {S S1:Ss} {m:Nat} {name:ByteArray} {st:List Ov} {self e:Int} (h:fY K S m name st self=some (S1,.error e)):(e==0)=false:=by
 unfold fY at h
 repeat' split at h
 all_goals first|(cases h;rfl)|cases h
end MN
end
section
open Go Go.AM Go.Proofs
namespace TR
theorem rZ {α:Type} {f:α->PV}:∀{l:List α},(∀x∈l,bC (f x)=true)->aY (l.map f)=true
 | [],_=>rfl
 |x::r,h=>by rw[List.map_cons,aY,h x List.mem_cons_self,rZ fun y hy=>h y (List.mem_cons_of_mem _ hy)];rfl
theorem HY:∀{l m:List PV},aY l=true->aY m=true->aY (l++m)=true
 | [],_,_,h=>h
 |x::r,m,h,q=>by rw[aY,Bool.and_eq_true]at h;rw[List.cons_append,aY,h.1,HY h.2 q];rfl
theorem Pg {x:PV} (h:bC x=true):aY x.cells=true:=by
 cases x<;>first|(simpa[PV.cells,aY,bC] using h)
theorem QJ (l:List ByteArray):aY (l.map bF)=true:=rZ fun _ _=>rfl
theorem Q6 (t:Ty):bC (eT t)=true:=by
 induction t using Ty.ind with
 |h k n xs ih=>rw[eT,bC,aY,aY,aY,bC,bC,bC,kY,rZ ih];rfl
theorem MM (l:List Ty):aY (mB l)=true:=by rw[kY];exact rZ fun t _=>Q6 t
theorem Rh (t:Pt):bC (eP t)=true:=by
 induction t using Pt.ind with
 |h k n t xs ih=>rw[eP,bC,aY,aY,aY,aY,bC,bC,bC,bC,mE,rZ ih];rfl
theorem RI (e:Ex):bC (eE e)=true:=by
 induction e using Ex.ind with
 |h k n t ns ts xs ms p h1 h2=>
  have h3:aY (jX ms)=true:=by
   rw[kZ];refine rZ fun a ha=>?_;obtain⟨p,e⟩:=a;rw[eA,bC];exact HY (Pg (Rh p)) (Pg (h2 _ ha))
  have h4:aY (eC xs)=true:=by rw[jc];exact rZ h1
  simp only[eE,bC,aY,QJ,MM,h3,h4,Bool.and_self]
theorem QN (f:Ac):bC (dj f)=true:=by
 have:=HY (Pg (Q6 f.out)) (Pg (RI f.body));simp only[dj,bC,aY,QJ,MM,this,Bool.and_self]
theorem Le (l:List Ac):aY (l.map dj)=true:=rZ fun f _=>QN f
theorem Ri (f:JN):bC (gZ f)=true:=by
 have:=HY (Pg (Q6 f.msg)) (Pg (RI f.body));simp only[gZ,bC,aY,QJ,MM,this,Bool.and_self]
theorem Rt (p:nX):bC (iY p)=true:=by
 have h1:aY (p.uses.map kT)=true:=rZ fun _ _=>rfl
 have h2:aY (p.datas.map kM)=true:=rZ fun d _=>by
  have:aY (d.makes.map vK)=true:=rZ fun m _=>by simp only[vK,bC,aY,MM,Bool.and_self]
  simp only[kM,bC,aY,QJ,this,Bool.and_self]
 have h3:aY (p.traits.map kN)=true:=rZ fun d _=>by simp only[kN,bC,aY,Le,Bool.and_self]
 have h4:aY (p.impls.map iI)=true:=rZ fun d _=>by simp only[iI,bC,aY,Le,Bool.and_self]
 have h5:aY (p.actors.map gZ)=true:=rZ fun f _=>Ri f;simp only[iY,bC,aY,h1,h2,h3,h4,Le,h5,Bool.and_self]
end TR
namespace MN
mutual
theorem R6:∀v:Ov,bC (eO v)=true
 |.mk k n t l=>by simp only[eO,bC,aY,Ni l,Bool.and_self]
theorem Ni:∀l:List Ov,aY (gT l)=true
 | []=>rfl
 |a::r=>by rw[gT,aY,R6 a,Ni r];rfl
end
theorem QX (l:List gV):aY (cP l)=true:=TR.rZ fun s _=>by
 obtain⟨a,k,n,t,l⟩:=s;simp only[Et,bC,aY,Ni l,Bool.and_self]
end MN
end
section
open Go Go.AM Go.Proofs TK
namespace MN
abbrev iN:List Nat:=[1000000003,1000000004,1000000005,1000000010,1000000011,1000000012,1000000013,1000000014,1000000015]
theorem QK:QH K0:=⟨fun _ h=>(by cases h),fun _ h=>(by cases h),fun _ h=>(by cases h),fun _ h=>(by cases h),fun _ h=>(by cases h)⟩
theorem KF:EU S0:=⟨fun _ h=>(by cases h),fun _ h=>(by cases h),fun _ h=>(by cases h),fun _ h=>(by cases h),rfl⟩
end MN
end
section
open Go Go.Proofs
namespace Go.AM
theorem EF {P:Program} {W:World} {name:String} {d:DataW Unit} {g:Nat} {t:TypeId} (hg:P.globalNamed name=some g) (hty:(P.globals[g]?).map (·.type)=some t) (ht:(match P.underlying t with|some (.interface _)=>true|_=>false)=true)
 (h:Lib.VarReads P W name d):∃ev:Value,(ev=.nilIface\/∃te pe,ev=.iface te pe)/\∃(E:TypeId) (fr:Nat×Nat),W.heap[g]?=some (.cells [ev].toArray E fr):=by
 obtain⟨g',t',cs,fuel,p,hg',ht',hvar,hd⟩:=h;obtain rfl:=Option.some.inj (hg.symm.trans hg');obtain rfl:=Option.some.inj (hty.symm.trans ht')
 have hcs:∃ev:Value,(ev=.nilIface\/∃te pe,ev=.iface te pe)/\cs=[ev].toArray:=by
  cases fuel with
  |zero=>simp[DataW.trod]at hd
  |succ fuel=>
   split at ht
   ·rename_i x hx
    simp only[DataW.trod,hx]at hd;split at hd
    all_goals first|(rename_i h1 _;cases h1;done)|(rename_i h1;cases h1;done)|(cases hd;done)|skip
    ·rename_i _ h2
     exact⟨.nilIface,.inl rfl,by rw[<-h2]⟩
    ·rename_i _ h2
     exact⟨_,.inr ⟨_,_,rfl⟩,by rw[<-h2]⟩
   ·cases ht
 obtain⟨ev,h1,h2⟩:=hcs;refine⟨ev,h1,?_⟩;unfold World.var? at hvar;rw[hg]at hvar;simp only[Option.bind_some]at hvar;split at hvar
 ·rename_i cs' E fr hb
  simp only[Option.some.injEq]at hvar;exact⟨E,fr,by rw[hb,hvar,h2]⟩
 ·cases hvar
end Go.AM
end
section
open Go Go.AM Go.Proofs
namespace Go.Proofs.YtdmopjgjhfhfdaaGreatDoor
theorem Tryz.own:ownKnob Tryz.prog.godebug=none:=by kernel_rfl
theorem Tryz.Ak:Tryz.prog.globalNamed "strconv.ErrRange"=some 2:=by kernel_rfl
theorem Ll {l:List (String×DataW Unit)} {W:World} (h:laidMetH Tryz.prog l W) (hm:("strconv.ErrRange",(Rows.laid_strconv_ErrRange:DataW Unit))∈l):∃ev:Value,(ev=.nilIface\/∃te pe,ev=.iface te pe)/\∃(E:TypeId) (fr:Nat×Nat),W.heap[2]?=some (.cells [ev].toArray E fr):=by
 have h1:=Lib.laidMet.reads (laidMetH_iff.1 h).1 (n:= "strconv.ErrRange") (d:=Rows.laid_strconv_ErrRange) (List.mem_filter.2 ⟨hm,by kernel_rfl⟩);exact EF (t:=224) Tryz.Ak (by kernel_rfl) (by kernel_rfl) h1
end Go.Proofs.YtdmopjgjhfhfdaaGreatDoor
end
section
open Go Go.AM Go.Proofs TR
namespace Go.Proofs.YtdmopjgjhfhfdaaGreatDoor
mutual
theorem mF {H:Type}:∀(d:DataW H),Rows.uptoBulk d=eM d
 |.lit (.string _)=>by simp[Rows.uptoBulk,eM]
 |.lit (.bool _)=>by simp[Rows.uptoBulk,eM]
 |.lit (.int _ _)=>by simp[Rows.uptoBulk,eM]
 |.lit (.float _ _)=>by simp[Rows.uptoBulk,eM]
 |.lit .nil=>by simp[Rows.uptoBulk,eM]
 |.nil=>by simp[Rows.uptoBulk,eM]
 |.ptr d=>by simp[Rows.uptoBulk,eM,mF d]
 |.slice a b=>by simp[Rows.uptoBulk,eM,lP a,lP b]
 |.agg a=>by simp[Rows.uptoBulk,eM,lP a]
 |.iface _ d=>by simp[Rows.uptoBulk,eM,mF d]
 |.map es=>by simp[Rows.uptoBulk,eM,qF es]
 |.held _=>by simp[Rows.uptoBulk,eM]
theorem lP {H:Type}:∀(d:List (DataW H)),Rows.uptoBulkAll d=cZ d
 | []=>by simp[Rows.uptoBulkAll,cZ]
 |x::r=>by simp[Rows.uptoBulkAll,cZ,mF x,lP r]
theorem qF {H:Type}:∀(d:List (Lit×DataW H)),Rows.uptoBulkEntries d=j9 d
 | []=>by simp[Rows.uptoBulkEntries,j9]
 |x::r=>by simp[Rows.uptoBulkEntries,j9,CG x,qF r]
theorem CG {H:Type}:∀(d:Lit×DataW H),Rows.uptoBulkEntry d=jP d
 |(.string _,d)=>by simp[Rows.uptoBulkEntry,jP,mF d]
 |(.bool _,d)=>by simp[Rows.uptoBulkEntry,jP,mF d]
 |(.int _ _,d)=>by simp[Rows.uptoBulkEntry,jP,mF d]
 |(.float _ _,d)=>by simp[Rows.uptoBulkEntry,jP,mF d]
 |(.nil,d)=>by simp[Rows.uptoBulkEntry,jP,mF d]
end
theorem K4 {H:Type} {ds:List (DataW H)} (h:Rows.uptoSmall H ds=true):cZ ds<=1048576:=by
 rw[<-lP];exact of_decide_eq_true h
theorem HL (y:PV) (h:TP Tryz.prog 9 [y]):∃d,y=bF d/\True:=by
 obtain⟨s,e,_⟩:=iw (by kernel_rfl) h;cases e;exact⟨s,rfl,trivial⟩
theorem zw:∀(n:Nat) (cs:List PV),SizeOf.sizeOf cs<n->TP Tryz.prog 97 cs->∃t,PV.agg cs=eT t/\True
 |0,cs,hn,_=>by omega
 |n+1,cs,hn,h=>by
  obtain⟨hl,hf⟩:=dN (n:=3) (l:=[(0,3,1),(1,9,1),(2,88,1)]) (by kernel_rfl) h
  match cs,hl with
  | [a,b,c],_=>
    obtain⟨k,e1,_⟩:=kP (k:=.i64) (by kernel_rfl) (hf (0,3,1) (by simp));obtain⟨s,e2,_⟩:=iw (by kernel_rfl) (hf (1,9,1) (by simp));obtain⟨xs,e3,hb,hc,ha⟩:=me (e:=97) (c:=3) (b:=48) (agg:=true) (by kernel_rfl) (hf (2,88,1) (by simp))
    cases e1;cases e2;cases e3
    obtain⟨l,rfl,_⟩:=kj (enc:=eT) (Q:=fun _=>True) xs (fun y hy=>by
     obtain⟨ys,rfl⟩:=(ha y hy).1 rfl;have h1:=List.sizeOf_lt_of_mem hy;exact zw n ys (by simp at hn h1;omega) (hc _ hy))
    exact⟨.mk k s l,by rw[eT,kY],trivial⟩
theorem Hi:∀(n:Nat) (cs:List PV),SizeOf.sizeOf cs<n->TP Tryz.prog 164 cs->∃t,PV.agg cs=eP t/\True
 |0,cs,hn,_=>by omega
 |n+1,cs,hn,h=>by
  obtain⟨hl,hf⟩:=dN (n:=4) (l:=[(0,3,1),(1,3,1),(2,9,1),(3,162,1)]) (by kernel_rfl) h
  match cs,hl with
  | [a,b,c,d],_=>
    obtain⟨k,e1,_⟩:=kP (k:=.i64) (by kernel_rfl) (hf (0,3,1) (by simp));obtain⟨m,e4,wm⟩:=kP (k:=.i64) (by kernel_rfl) (hf (1,3,1) (by simp));obtain⟨s,e2,_⟩:=iw (by kernel_rfl) (hf (2,9,1) (by simp));obtain⟨xs,e3,hb,hc,ha⟩:=me (e:=164) (c:=4) (b:=56) (agg:=true) (by kernel_rfl) (hf (3,162,1) (by simp))
    cases e1;cases e2;cases e3;cases e4
    obtain⟨l,rfl,_⟩:=kj (enc:=eP) (Q:=fun _=>True) xs (fun y hy=>by
     obtain⟨ys,rfl⟩:=(ha y hy).1 rfl;have h1:=List.sizeOf_lt_of_mem hy;exact Hi n ys (by simp at hn h1;omega) (hc _ hy))
    exact⟨.mk k m s l,by rw[eP,mE],trivial⟩
theorem Jg (a b:List PV):SizeOf.sizeOf b<=SizeOf.sizeOf (a++b):=by
 induction a with
 |nil=>simp
 |cons x r ih=>simp;omega
theorem Cw:∀(n:Nat) (cs:List PV),SizeOf.sizeOf cs<n->TP Tryz.prog 101 cs->∃t,PV.agg cs=eE t/\True
 |0,cs,hn,_=>by omega
 |n+1,cs,hn,h=>by
  obtain⟨hl,hf⟩:=dN (n:=8) (l:=[(0,3,1),(1,3,1),(2,9,1),(3,53,1),(4,88,1),(5,98,1),(6,99,1),(7,3,1)]) (by kernel_rfl) h
  match cs,hl with
  | [a0,a1,a2,a3,a4,a5,a6,a7],_=>
    obtain⟨k,e0,_⟩:=kP (k:=.i64) (by kernel_rfl) (hf (0,3,1) (by simp));obtain⟨m,e1,_⟩:=kP (k:=.i64) (by kernel_rfl) (hf (1,3,1) (by simp));obtain⟨s,e2,_⟩:=iw (by kernel_rfl) (hf (2,9,1) (by simp));obtain⟨ns,e3,_⟩:=Di (e:=9) (c:=1) (b:=16) (by kernel_rfl) (hf (3,53,1) (by simp)) HL;obtain⟨ts,e4,_⟩:=gI (e:=97) (c:=3) (b:=48) (enc:=eT) (Q:=fun _=>True) (by kernel_rfl) (hf (4,88,1) (by simp)) (fun cs hcs=>zw _ cs (Nat.lt_succ_self _) hcs);obtain⟨xs,e5,_,hc5,ha5⟩:=me (e:=101) (c:=8) (b:=136) (agg:=true) (by kernel_rfl) (hf (5,98,1) (by simp));obtain⟨ms,e6,_,hc6,ha6⟩:=me (e:=166) (c:=12) (b:=192) (agg:=true) (by kernel_rfl) (hf (6,99,1) (by simp));obtain⟨p,e7,_⟩:=kP (k:=.i64) (by kernel_rfl) (hf (7,3,1) (by simp))
    cases e0;cases e1;cases e2;cases e3;cases e4;cases e5;cases e6;cases e7
    obtain⟨l5,rfl,_⟩:=kj (enc:=eE) (Q:=fun _=>True) xs (fun y hy=>by
     obtain⟨ys,rfl⟩:=(ha5 y hy).1 rfl;have h1:=List.sizeOf_lt_of_mem hy;exact Cw n ys (by simp at hn h1;omega) (hc5 _ hy))
    obtain⟨l6,rfl,_⟩:=kj (enc:=eA) (Q:=fun _=>True) ms (fun y hy=>by
     obtain⟨ys,rfl⟩:=(ha6 y hy).1 rfl;have h1:=List.sizeOf_lt_of_mem hy;obtain⟨hl6,hf6⟩:=dN (n:=12) (l:=[(0,164,4),(4,101,8)]) (by kernel_rfl) (hc6 _ hy);simp only[PV.cells]at hl6 hf6;obtain⟨q1,w1,_⟩:=Hi _ _ (Nat.lt_succ_self _) (hf6 (0,164,4) (by simp));have hd:(ys.drop 4).take 8=ys.drop 4:=List.take_of_length_le (by simp;omega);have hs:=Jg (ys.take 4) (ys.drop 4);rw[List.take_append_drop]at hs;have h2:=hf6 (4,101,8) (by simp);simp only[hd]at h2;obtain⟨q2,w2,_⟩:=Cw n (ys.drop 4) (by simp at hn h1;omega) h2;refine⟨.mk q1 q2,?_,trivial⟩;rw[eA,<-w1,<-w2];simp only[PV.cells,List.drop_zero,List.take_append_drop])
    exact⟨.mk k m s ns ts l5 l6 p,by rw[eE,kY,jc,kZ],trivial⟩
theorem xe {x:PV} (h:TP Tryz.prog 53 [x]):∃l:List ByteArray,x=.sl 1 (l.map bF):=by
 obtain⟨ns,e3,_⟩:=Di (e:=9) (c:=1) (b:=16) (by kernel_rfl) h HL;cases e3;exact⟨ns,rfl⟩
theorem C4 {x:PV} (h:TP Tryz.prog 88 [x]):∃l:List Ty,x=.sl 3 (mB l):=by
 obtain⟨ts,e4,_⟩:=gI (e:=97) (c:=3) (b:=48) (enc:=eT) (Q:=fun _=>True) (by kernel_rfl) h (fun cs hcs=>zw _ cs (Nat.lt_succ_self _) hcs)
 cases e4;exact⟨ts,by rw[kY]⟩
theorem KA (cs:List PV) (h:TP Tryz.prog 193 cs):∃f:O1,PV.agg cs=kT f/\True:=by
 obtain⟨hl,hf⟩:=dN (n:=3) (l:=[(0,9,1),(1,3,1),(2,3,1)]) (by kernel_rfl) h
 match cs,hl with
 | [a0,a1,a2],_=>
   obtain⟨s,e0,_⟩:=iw (by kernel_rfl) (hf (0,9,1) (by simp));obtain⟨k,e1,_⟩:=kP (k:=.i64) (by kernel_rfl) (hf (1,3,1) (by simp));obtain⟨m,e2,_⟩:=kP (k:=.i64) (by kernel_rfl) (hf (2,3,1) (by simp))
   cases e0;cases e1;cases e2
   exact⟨⟨s,k,m⟩,rfl,trivial⟩
theorem CS (cs:List PV) (h:TP Tryz.prog 103 cs):∃f:Ac,PV.agg cs=dj f/\True:=by
 obtain⟨hl,hf⟩:=dN (n:=15) (l:=[(0,9,1),(1,53,1),(2,53,1),(3,88,1),(4,97,3),(7,101,8)]) (by kernel_rfl) h
 match cs,hl with
 | [a0,a1,a2,a3,b1,b2,b3,c1,c2,c3,c4,c5,c6,c7,c8],_=>
   obtain⟨s,e0,_⟩:=iw (by kernel_rfl) (hf (0,9,1) (by simp));obtain⟨l1,e1⟩:=xe (hf (1,53,1) (by simp));obtain⟨l2,e2⟩:=xe (hf (2,53,1) (by simp));obtain⟨l3,e3⟩:=C4 (hf (3,88,1) (by simp));obtain⟨t,e4,_⟩:=zw _ [b1,b2,b3] (Nat.lt_succ_self _) (hf (4,97,3) (by simp));obtain⟨e,e5,_⟩:=Cw _ [c1,c2,c3,c4,c5,c6,c7,c8] (Nat.lt_succ_self _) (hf (7,101,8) (by simp))
   cases e0;subst e1;subst e2;subst e3
   refine⟨⟨s,l1,l2,l3,t,e⟩,?_,trivial⟩;rw[dj,<-e4,<-e5];rfl
theorem Mo (cs:List PV) (h:TP Tryz.prog 106 cs):∃f:xF,PV.agg cs=iI f/\True:=by
 obtain⟨hl,hf⟩:=dN (n:=3) (l:=[(0,9,1),(1,9,1),(2,27,1)]) (by kernel_rfl) h
 match cs,hl with
 | [a0,a1,a2],_=>
   obtain⟨s,e0,_⟩:=iw (by kernel_rfl) (hf (0,9,1) (by simp));obtain⟨u,e1,_⟩:=iw (by kernel_rfl) (hf (1,9,1) (by simp));obtain⟨fs,e2,_⟩:=gI (e:=103) (c:=15) (b:=272) (enc:=dj) (Q:=fun _=>True) (by kernel_rfl) (hf (2,27,1) (by simp)) (fun cs hcs=>CS cs hcs)
   cases e0;cases e1;cases e2
   exact⟨⟨s,u,fs⟩,rfl,trivial⟩
theorem M7 (cs:List PV) (h:TP Tryz.prog 90 cs):∃f:PO,PV.agg cs=vK f/\True:=by
 obtain⟨hl,hf⟩:=dN (n:=2) (l:=[(0,9,1),(1,88,1)]) (by kernel_rfl) h
 match cs,hl with
 | [a0,a1],_=>
   obtain⟨s,e0,_⟩:=iw (by kernel_rfl) (hf (0,9,1) (by simp));obtain⟨l3,e3⟩:=C4 (hf (1,88,1) (by simp))
   cases e0;subst e3
   exact⟨⟨s,l3⟩,rfl,trivial⟩
theorem MI (cs:List PV) (h:TP Tryz.prog 87 cs):∃f:PG,PV.agg cs=kM f/\True:=by
 obtain⟨hl,hf⟩:=dN (n:=3) (l:=[(0,9,1),(1,53,1),(2,85,1)]) (by kernel_rfl) h
 match cs,hl with
 | [a0,a1,a2],_=>
   obtain⟨s,e0,_⟩:=iw (by kernel_rfl) (hf (0,9,1) (by simp));obtain⟨l1,e1⟩:=xe (hf (1,53,1) (by simp));obtain⟨fs,e2,_⟩:=gI (e:=90) (c:=2) (b:=40) (enc:=vK) (Q:=fun _=>True) (by kernel_rfl) (hf (2,85,1) (by simp)) (fun cs hcs=>M7 cs hcs)
   cases e0;subst e1;cases e2
   exact⟨⟨s,l1,fs⟩,rfl,trivial⟩
theorem Mz (cs:List PV) (h:TP Tryz.prog 95 cs):∃f:PC,PV.agg cs=kN f/\True:=by
 obtain⟨hl,hf⟩:=dN (n:=2) (l:=[(0,9,1),(1,27,1)]) (by kernel_rfl) h
 match cs,hl with
 | [a0,a1],_=>
   obtain⟨s,e0,_⟩:=iw (by kernel_rfl) (hf (0,9,1) (by simp));obtain⟨fs,e2,_⟩:=gI (e:=103) (c:=15) (b:=272) (enc:=dj) (Q:=fun _=>True) (by kernel_rfl) (hf (1,27,1) (by simp)) (fun cs hcs=>CS cs hcs)
   cases e0;cases e2
   exact⟨⟨s,fs⟩,rfl,trivial⟩
theorem Nu (cs:List PV) (h:TP Tryz.prog 115 cs):∃f:JN,PV.agg cs=gZ f/\True:=by
 obtain⟨hl,hf⟩:=dN (n:=14) (l:=[(0,9,1),(1,53,1),(2,88,1),(3,97,3),(6,101,8)]) (by kernel_rfl) h
 match cs,hl with
 | [a0,a1,a3,b1,b2,b3,c1,c2,c3,c4,c5,c6,c7,c8],_=>
   obtain⟨s,e0,_⟩:=iw (by kernel_rfl) (hf (0,9,1) (by simp));obtain⟨l1,e1⟩:=xe (hf (1,53,1) (by simp));obtain⟨l3,e3⟩:=C4 (hf (2,88,1) (by simp));obtain⟨t,e4,_⟩:=zw _ [b1,b2,b3] (Nat.lt_succ_self _) (hf (3,97,3) (by simp));obtain⟨e,e5,_⟩:=Cw _ [c1,c2,c3,c4,c5,c6,c7,c8] (Nat.lt_succ_self _) (hf (6,101,8) (by simp))
   cases e0;subst e1;subst e3
   refine⟨⟨s,l1,l3,t,e⟩,?_,trivial⟩;rw[gZ,<-e4,<-e5];rfl
theorem Ms (cs:List PV) (h:TP Tryz.prog 30 cs):∃f:nX,PV.agg cs=iY f/\True:=by
 obtain⟨hl,hf⟩:=dN (n:=8) (l:=[(0,9,1),(1,3,1),(2,23,1),(3,24,1),(4,25,1),(5,26,1),(6,27,1),(7,28,1)]) (by kernel_rfl) h
 match cs,hl with
 | [a0,a1,a2,a3,a4,a5,a6,a7],_=>
   obtain⟨s,e0,_⟩:=iw (by kernel_rfl) (hf (0,9,1) (by simp));obtain⟨n,e1,_⟩:=kP (k:=.i64) (by kernel_rfl) (hf (1,3,1) (by simp));obtain⟨l2,e2,_⟩:=gI (e:=193) (c:=3) (b:=32) (enc:=kT) (Q:=fun _=>True) (by kernel_rfl) (hf (2,23,1) (by simp)) (fun cs hcs=>KA cs hcs);obtain⟨l3,e3,_⟩:=gI (e:=87) (c:=3) (b:=64) (enc:=kM) (Q:=fun _=>True) (by kernel_rfl) (hf (3,24,1) (by simp)) (fun cs hcs=>MI cs hcs);obtain⟨l4,e4,_⟩:=gI (e:=95) (c:=2) (b:=40) (enc:=kN) (Q:=fun _=>True) (by kernel_rfl) (hf (4,25,1) (by simp)) (fun cs hcs=>Mz cs hcs);obtain⟨l5,e5,_⟩:=gI (e:=106) (c:=3) (b:=56) (enc:=iI) (Q:=fun _=>True) (by kernel_rfl) (hf (5,26,1) (by simp)) (fun cs hcs=>Mo cs hcs);obtain⟨l6,e6,_⟩:=gI (e:=103) (c:=15) (b:=272) (enc:=dj) (Q:=fun _=>True) (by kernel_rfl) (hf (6,27,1) (by simp)) (fun cs hcs=>CS cs hcs);obtain⟨l7,e7,_⟩:=gI (e:=115) (c:=14) (b:=248) (enc:=gZ) (Q:=fun _=>True) (by kernel_rfl) (hf (7,28,1) (by simp)) (fun cs hcs=>Nu cs hcs)
   cases e0;cases e1;cases e2;cases e3;cases e4;cases e5;cases e6;cases e7
   exact⟨⟨s,n,l2,l3,l4,l5,l6,l7⟩,rfl,trivial⟩
theorem GI:∀(n:Nat) (cs:List PV),SizeOf.sizeOf cs<n->TP Tryz.prog 39 cs->∃t,PV.agg cs=MN.eO t/\True
 |0,cs,hn,_=>by omega
 |n+1,cs,hn,h=>by
  obtain⟨hl,hf⟩:=dN (n:=4) (l:=[(0,3,1),(1,3,1),(2,9,1),(3,37,1)]) (by kernel_rfl) h
  match cs,hl with
  | [a,b,c,d],_=>
    obtain⟨k,e1,_⟩:=kP (k:=.i64) (by kernel_rfl) (hf (0,3,1) (by simp));obtain⟨m,e2,_⟩:=kP (k:=.i64) (by kernel_rfl) (hf (1,3,1) (by simp));obtain⟨s,e3,_⟩:=iw (by kernel_rfl) (hf (2,9,1) (by simp));obtain⟨xs,e4,hb,hc,ha⟩:=me (e:=39) (c:=4) (b:=56) (agg:=true) (by kernel_rfl) (hf (3,37,1) (by simp))
    cases e1;cases e2;cases e3;cases e4
    obtain⟨l,rfl,_⟩:=kj (enc:=MN.eO) (Q:=fun _=>True) xs (fun y hy=>by
     obtain⟨ys,rfl⟩:=(ha y hy).1 rfl;have h1:=List.sizeOf_lt_of_mem hy;exact GI n ys (by simp at hn h1;omega) (hc _ hy))
    exact⟨.mk k m s l,by rw[MN.eO,MN.rq],trivial⟩
theorem M9 {x:List PV} (h:TP Tryz.prog 37 x):∃l:List MN.Ov,x=[.sl 4 (MN.gT l)]:=by
 obtain⟨l,e,_⟩:=gI (e:=39) (c:=4) (b:=56) (enc:=MN.eO) (Q:=fun _=>True) (by kernel_rfl) h (fun cs hcs=>GI _ cs (Nat.lt_succ_self _) hcs);exact⟨l,by rw[e,MN.rq]⟩
theorem MW (cs:List PV) (h:TP Tryz.prog 66 cs):∃s:MN.gV,PV.agg cs=MN.Et s/\True:=by
 obtain⟨hl,hf⟩:=dN (n:=5) (l:=[(0,3,1),(1,39,4)]) (by kernel_rfl) h
 match cs,hl with
 | [a,b,c,d,e],_=>
   obtain⟨k,e1,_⟩:=kP (k:=.i64) (by kernel_rfl) (hf (0,3,1) (by simp));obtain⟨v,e2,_⟩:=GI _ [b,c,d,e] (Nat.lt_succ_self _) (hf (1,39,4) (by simp));cases e1;obtain⟨w,m,t,l⟩:=v;rw[MN.eO]at e2
   injection e2 with e2
   simp only[List.cons.injEq,and_true]at e2;obtain⟨rfl,rfl,rfl,rfl⟩:=e2;exact⟨⟨k,.mk w m t l⟩,rfl,trivial⟩
theorem Du {x:List PV} (h:TP Tryz.prog 49 x):∃l:List MN.gV,x=[.sl 5 (MN.cP l)]:=by
 obtain⟨l,e,_⟩:=gI (e:=66) (c:=5) (b:=64) (enc:=MN.Et) (Q:=fun _=>True) (by kernel_rfl) h (fun cs hcs=>MW cs hcs);exact⟨l,e⟩
mutual
theorem LR:∀v:MN.Ov,PV.wt (MN.eO v)<=1048576->MN.xK v
 |.mk k n t l=>fun h=>by
  simp only[MN.eO,PV.wt,PV.cH]at h;obtain⟨h1,h2⟩:=qN l (by omega);rw[MN.xK];exact⟨by omega,by omega,h2⟩
theorem qN:∀l:List MN.Ov,PV.cH (MN.gT l)<=1048576->l.length<=PV.cH (MN.gT l)/\MN.Ed l
 | []=>fun _=>⟨Nat.zero_le _,by rw[MN.Ed];trivial⟩
 |v::r=>fun h=>by
  rw[MN.gT,PV.cH]at h;have h1:=LR v (by omega);obtain⟨h2,h3⟩:=qN r (by omega)
  have h4:1<=PV.wt (MN.eO v):=by
   obtain⟨k,n,t,l⟩:=v;simp only[MN.eO,PV.wt,PV.cH];omega
  rw[MN.gT,PV.cH,List.length_cons,MN.Ed];exact⟨by omega,h1,h3⟩
end
theorem LM {st:List MN.Ov} {l:List MN.gV} (h1:PV.cH (MN.gT st)<=1048576) (h2:PV.cH (MN.cP l)<=1048576):MN.JO st l:=by
 obtain⟨a1,a2⟩:=qN st h1;refine⟨MN.xP a2,by omega,fun s hs=>LR _ ?_⟩;have:=tK MN.Et hs;unfold MN.cP at h2;obtain⟨a,k,n,t,q⟩:=s;simp only[MN.Et,MN.eO,PV.wt,PV.cH]at this ⊢;omega
end Go.Proofs.YtdmopjgjhfhfdaaGreatDoor
end
section
open Go Go.AM Go.Proofs TK
namespace MN
section
variable {K:Ks} {fo:FO} {NR ρ:Nat->Nat->Prop} {m:Nat} {z w:aZ Cl}
theorem LL {k num:Int} {t T:ByteArray} {l:List Ov} (h:tu K m (.mk k num t l)=some (T,true)):T=t:=by
 unfold tu at h;dsimp only at h
 repeat' split at h
 all_goals first|(cases h;done)|exact(congrArg Prod.fst (Option.some.inj h)).symm
def GN (τ τ':Nat->Nat->Prop) (s s':List Nat):Prop:=(∀a b,τ a b->τ' a b)/\∀a b,τ' a b->τ a b\/(aW s a=false/\aW s' a=true)
def GR (fo:FO) {α β:Type} (R:(Nat->Nat->Prop)->α->β->Prop) (z:aZ Cl) (τ:Nat->Nat->Prop) (s s':List Nat) (u:α) (x:Option (Option β×aZ Cl)):Prop:=
 ∃o w' τ',x=some (o,w')/\(o=none\/∃v,o=some v/\GN τ τ' s s'/\CR fo τ' z w'/\R τ' u v)
theorem CN (a c:Nat):∀s:List Nat,aW (s++[c]) a=(aW s a||Nat.beq c a)
 | []=>by rw[List.nil_append,aW,aW,aW];cases Nat.beq c a<;>rfl
 |x::s=>by
  rw[List.cons_append,aW,aW,CN a c s]
  cases Nat.beq x a<;>rfl
theorem zm {a:Nat} {s:List Nat} (c:Nat) (h:aW s a=true):aW (s++[c]) a=true:=by rw[CN,h];rfl
theorem tF {M:List (Nat×Cl)} {n:Nat} (hn:∀v s s' b a,dw M n v s=some (b,s')->aW s a=true->aW s' a=true):∀{l:List Vl} {s s':List Nat} {b:Bool} {a:Nat},eD (dw M n) l s=some (b,s')->aW s a=true->aW s' a=true
 | [],s,s',b,a,h,q=>by cases h;exact q
 |v::r,s,s',b,a,h,q=>by
  rw[eD]at h;split at h
  ·cases h
  ·rename_i s1 h1;cases h;exact hn _ _ _ _ _ h1 q
  ·rename_i s1 h1;exact tF hn h (hn _ _ _ _ _ h1 q)
theorem um {M:List (Nat×Cl)}:∀(n:Nat) (v:Vl) (s s':List Nat) (b:Bool) (a:Nat),dw M n v s=some (b,s')->aW s a=true->aW s' a=true
 |0,_,_,_,_,_,h,_=>by cases h
 |n+1,.mk k kn t l c,s,s',b,a,h,q=>by
  have h0:∀s1 b1,tT M (.mk k kn t l c) s=some (b1,s1)->aW s1 a=true:=by
   intro s1 b1 h1;unfold tT at h1;dsimp only at h1
   repeat' split at h1
   all_goals first|(cases h1;done)|(cases h1;first|exact q|exact zm _ q)
  unfold dw at h;split at h
  ·cases h
  ·rename_i s1 h1;cases h;exact h0 _ _ h1
  ·rename_i s1 h1
   split at h
   ·cases h
   ·split at h
    ·cases h
    ·exact tF (um n) h (h0 _ _ h1)
theorem GN.trans {τ τ1 τ2:Nat->Nat->Prop} {s s1 s2:List Nat} (h:GN τ τ1 s s1) (q:GN τ1 τ2 s1 s2) (h1:∀a,aW s a=true->aW s1 a=true) (h2:∀a,aW s1 a=true->aW s2 a=true):GN τ τ2 s s2:=by
 refine⟨fun a b x=>q.1 _ _ (h.1 _ _ x),fun a b x=>?_⟩;rcases q.2 _ _ x with x|⟨x,y⟩
 ·rcases h.2 _ _ x with x|⟨x,y⟩
  ·exact .inl x
  ·exact .inr ⟨x,h2 _ y⟩
 ·refine .inr ⟨?_,y⟩
  cases e:aW s a with
  |false=>rfl
  |true=>rw[h1 _ e]at x;cases x
theorem Fs {n k d:Nat} (hf:∀(v:Vl) (s s':List Nat) (o:Ov) (τ:Nat->Nat->Prop) (w:aZ Cl),VR fo ρ v v->dw z.2 n v s=some (true,s')->jd z.2 k v=some o->sY o<=d->CR fo τ z w->(∀a b,τ a b->aW s a=true)->GR fo (VR fo) z τ s s' v (fh K m d o w)):
 ∀(l:List Vl) (s s':List Nat) (os:List Ov) (τ:Nat->Nat->Prop) (w:aZ Cl),qX fo ρ l l->eD (dw z.2 n) l s=some (true,s')->ia (jd z.2 k) l=some os->mg os<=d->CR fo τ z w->(∀a b,τ a b->aW s a=true)->GR fo (fun τ a b=>F2 (VR fo τ) a b) z τ s s' l (kD (fh K m d) os w)
 | [],s,s',os,τ,w,_,hg,hv,_,hc,_=>by
   cases hg;cases hv
   exact⟨_,w,τ,rfl,.inr ⟨[],rfl,⟨fun _ _ x=>x,fun _ _ x=>.inl x⟩,hc,trivial⟩⟩
 |v::l,s,s',os,τ,w,hr,hg,hv,hd,hc,hm=>by
  rw[eD]at hg;split at hg
  ·cases hg
  ·cases hg
  rename_i s1 hg1
  rw[ia]at hv;split at hv
  ·cases hv
  rename_i o ho
  split at hv
  ·cases hv
  rename_i os' hos
  cases hv;unfold qX at hr;rw[mg]at hd;obtain⟨x,w1,τ1,e1,e2⟩:=hf v s s1 o τ w hr.1 hg1 ho (by omega) hc hm;rw[kD,e1];rcases e2 with rfl|⟨u,rfl,g1,g2,g3⟩
  ·exact⟨none,w1,τ,rfl,.inl rfl⟩
  ·have le1:∀a,aW s a=true->aW s1 a=true:=fun a=>um n v s s1 true a hg1
   have le2:∀a,aW s1 a=true->aW s' a=true:=fun a=>tF (um n) hg
   obtain⟨y,w2,τ2,f1,f2⟩:=Fs hf l s1 s' os' τ1 w1 hr.2 hg hos (by omega) g2 fun a b x=>by
    rcases g1.2 _ _ x with x|⟨_,x⟩
    ·exact le1 _ (hm _ _ x)
    ·exact x
   dsimp only;rw[f1];rcases f2 with rfl|⟨us,rfl,k1,k2,k3⟩
   ·exact⟨none,w2,τ,rfl,.inl rfl⟩
   ·exact⟨_,w2,τ2,rfl,.inr ⟨u::us,rfl,g1.trans k1 le1 le2,k2,g3.mono k1.1,k3⟩⟩
theorem Kc (kr:KR K K fo NR m m) (hz:CR fo ρ z z):∀(n k d:Nat) (v:Vl) (s s':List Nat) (o:Ov) (τ:Nat->Nat->Prop) (w:aZ Cl),VR fo ρ v v->dw z.2 n v s=some (true,s')->jd z.2 k v=some o->sY o<=d->CR fo τ z w->(∀a b,τ a b->aW s a=true)->GR fo (VR fo) z τ s s' v (fh K m d o w)
 |0,_,_,_,_,_,_,_,_,_,h,_,_,_,_=>by cases h
 |_+1,0,_,_,_,_,_,_,_,_,_,h,_,_,_=>by cases h
 |_+1,_+1,0,_,_,_,o,_,_,_,_,_,h,_,_=>by cases o;simp[sY]at h
 |n+1,k+1,d+1,.mk vk vn vt vl vc,s,s',o,τ,w,hv,hg,ho,hd,hc,hm=>by
  have hlist:=Fs (K:=K) (m:=m) (ρ:=ρ) (Kc kr hz n k d);have hv':=hv;unfold VR at hv';obtain⟨_,⟨hl,hco,h7,hts,c1,c2,c3⟩,hvs⟩:=hv';unfold dw at hg;split at hg
  ·cases hg
  ·cases hg
  rename_i s1 hg0
  split at hg
  ·cases hg
  rename_i ps hps
  split at hg
  ·cases hg
  unfold jd at ho;rw[hps]at ho;dsimp only at ho;split at ho
  ·cases ho
  split at ho
  ·cases ho
  rename_i os hos
  cases ho;rw[sY]at hd;obtain⟨R,r1,_,r3⟩:=Kr kr vk vn vt os hts;rw[fh,r1];rcases R with _|⟨⟨o1,o2,o3⟩,most⟩
  ·exact⟨_,w,τ,rfl,.inl rfl⟩
  have hhead:o1=vk/\o2=vn/\o3=vt:=by
   unfold yB at r1;dsimp only at r1;have z0:∀{a b:Int},(a==b)=true->a=b:=fun h=>eq_of_beq h
   repeat' split at r1
   all_goals first|(cases r1;done)|skip
   all_goals cases r1
   all_goals refine⟨?_,?_,?_⟩
   all_goals first|rfl|skip
   all_goals simp only[beq_iff_eq,Bool.or_eq_true,beq_eq_false_iff_ne]at *
   all_goals first|omega|(exact(c1 (by omega)).symm)|(exact(c2 (by omega)).symm)|(exact LL (by assumption))
  obtain⟨rfl,rfl,rfl⟩:=hhead;obtain⟨_,_,g8,g7,_,g0⟩:=r3 _ _ rfl;dsimp only at g8 g7;dsimp only
  cases h8:o1==8 with
  |true=>
   have e8:=eq_of_beq h8;obtain⟨rfl,rfl,rfl⟩:=g8 e8;subst e8;obtain⟨a,_,rfl,ea,hab⟩:=hco.1 rfl;cases ea;obtain⟨x,_,hx,hx',_,hxv⟩:=hz.at' _ _ hab;rw[hx]at hx';cases hx';have hvl:vl=[]:=c3 (by omega);subst hvl;unfold tT at hg0;unfold dS at hps;dsimp only at hg0 hps;rw[show((8:Int)==8)=true from rfl]at hg0 hps;dsimp only at hg0 hps;rw[hx]at hg0 hps;dsimp only at hg0 hps
   cases hgo:x.gone||aW s a with
   |true=>rw[hgo]at hg0;cases hg0
   |false=>
    rw[hgo]at hg0;cases hg0;rw[Bool.or_eq_false_iff]at hgo;rw[hgo.1]at hps;cases hps;obtain⟨y,w1,τ1,f1,f2⟩:=hlist [x.val] (s++[a]) s' os τ w (by unfold qX;exact⟨hxv,by unfold qX;trivial⟩) hg hos (by omega) hc fun c b q=>zm _ (hm c b q)
    have hlen:os.length=1:=by
     rw[ia]at hos;split at hos
     ·cases hos
     ·rw[ia]at hos;cases hos;rfl
    rw[show Nat.beq 1 0=false from rfl,hlen];rw[show decide (((1:Nat):Int)>((1:Nat):Int))=false from by decide,show Nat.ble 1 2000000=true from rfl];dsimp only;rw[f1];rcases f2 with rfl|⟨us,rfl,k1,k2,k3⟩
    ·exact⟨none,w1,τ,rfl,.inl rfl⟩
    ·rcases us with _|⟨u,us⟩
     ·cases k3
     ·have hme:aW (s++[a]) a=true:=by rw[CN,Nat.beq_refl,Bool.or_true]
      have hna:∀b,¬τ1 a b:=fun b q=>by
       rcases k1.2 _ _ q with q|⟨q,_⟩
       ·rw[hm _ _ q]at hgo;cases hgo.2
       ·rw[hme]at q;cases q
      have hs':aW s' a=true:=tF (um n) hg hme;refine⟨_,_,fun c b=>τ1 c b\/(c=a/\b=w1.1),rfl,.inr ⟨_,rfl,⟨fun c b q=>.inl (k1.1 _ _ q),fun c b q=>?_⟩,?_,?_⟩⟩
      ·rcases q with q|⟨rfl,rfl⟩
       ·rcases k1.2 _ _ q with q|⟨q1,q2⟩
        ·exact .inl q
        ·refine .inr ⟨?_,q2⟩
         cases e:aW s c with
         |false=>rfl
         |true=>rw[zm _ e]at q1;cases q1
       ·exact .inr ⟨hgo.2,hs'⟩
      ·refine⟨fun c b q=>?_,fun c b c' b' q q'=>?_,k2.b1,k2.b2.push _,k2.n1,qE k2.b2 k2.n2 _,fun p hp=>⟨(k2.fx p hp).1,fun b q=>?_⟩⟩
       ·rcases q with q|⟨rfl,rfl⟩
        ·obtain⟨x',y',j1,j2,j3,j4⟩:=k2.at' c b q
         exact⟨x',y',j1,k2.b2.old j2,j3,j4.mono fun _ _ q=>.inl q⟩
        ·exact⟨x,⟨false,u⟩,hx,aP ..,hgo.1,k3.1.mono fun _ _ q=>.inl q⟩
       ·have lt:∀c b,τ1 c b->b<w1.1:=fun c b q=>by
         obtain⟨x',y',q1,q2,_⟩:=k2.at' c b q;exact k2.b2.lt q2
        rcases q with q|⟨rfl,rfl⟩<;>rcases q' with q'|⟨rfl,rfl⟩
        ·exact k2.inj _ _ _ _ q q'
        ·have:=lt _ _ q
         exact⟨fun e=>by subst e;exact absurd q (hna _),fun e=>by omega⟩
        ·have:=lt _ _ q'
         exact⟨fun e=>by subst e;exact absurd q' (hna _),fun e=>by omega⟩
        ·simp
       ·rcases q with q|⟨e,rfl⟩
        ·exact(k2.fx p hp).2 _ q
        ·have:=hz.fx p hp
         rw[e]at this;exact this.2 _ hab
      ·exact VR.Ev (.inr ⟨rfl,rfl⟩)
  |false=>
   have hg1:s1=s/\ps=vl:=by
    unfold tT at hg0;unfold dS at hps;dsimp only at hg0 hps;rw[h8]at hg0 hps
    cases hg0;cases hps;exact⟨rfl,rfl⟩
   obtain⟨rfl,rfl⟩:=hg1;have hcc:=hco.2 h8;obtain⟨rfl,_⟩:=hcc
   have hol:os.length=ps.length:=by
    have:∀(l:List Vl) (os:List Ov),ia (jd z.2 k) l=some os->os.length=l.length:=by
     intro l
     induction l with
     |nil=>intro os h;cases h;rfl
     |cons v l ih=>
      intro os h;rw[ia]at h;split at h
      ·cases h
      ·split at h
       ·cases h
       ·rename_i os' ho';cases h;rw[List.length_cons,List.length_cons,ih _ ho']
    exact this _ _ hos
   have h8':o1≠8:=by simpa using h8
   cases hm0:Nat.beq most 0 with
   |true=>
    have hm0:most=0:=Nat.eq_of_beq_eq_true hm0
    have hnil:ps=[]\/o1=5:=by
     by_cases h5:o1=5
     ·exact .inr h5
     by_cases e7:o1=7
     ·have:=(g7 e7).2
      rw[hm0]at this;exact .inl (List.eq_nil_of_length_eq_zero (by omega))
     ·exact .inl (c3 (by omega))
    have hnil:ps=[]:=by
     rcases hnil with h|h
     ·exact h
     ·exfalso
      subst h;cases r1;cases hm0
    subst hnil;cases hg;exact⟨_,w,τ,rfl,.inr ⟨_,rfl,⟨fun _ _ x=>x,fun _ _ x=>.inl x⟩,hc,VR.mk' h8 h7 (by simp) hts ⟨c1,c2,c3⟩ (by simp[qX])⟩⟩
   |false=>
    dsimp only
    cases decide ((os.length:Int)>(most:Int)) with
    |true=>exact⟨_,w,τ,rfl,.inl rfl⟩
    |false=>
     dsimp only;rw[Nat.ble_eq_true_of_le (show os.length<=2000000 by omega)];dsimp only;obtain⟨y,w1,τ1,f1,f2⟩:=hlist ps s1 s' os τ w hvs hg hos (by omega) hc hm;rw[f1];rcases f2 with rfl|⟨us,rfl,k1,k2,k3⟩
     ·exact⟨none,w1,τ,rfl,.inl rfl⟩
     ·dsimp only
      unfold El;rw[h8];exact⟨_,w1,τ1,rfl,.inr ⟨_,rfl,k1,k2,VR.mk' h8 h7 hl hts ⟨c1,c2,c3⟩ (fA.2 k3)⟩⟩
end
def pE (K:Ks):Nat->Ss->Rn->Int->List gV->Option (Bool×Ss×Rn)
 |0,S,r,_,_=>some (false,S,r)
 |n+1,S,r,refs,l=>match uO K 400 S r with
  |none=>none
  |some (o,S2,r2)=>match (o.kind==8)||(o.kind==9) with
   |true=>some (false,S2,r2)
   |false=>match o.kind==4 with
    |true=>match pP K S2 r2 (.mk 6 (IntKind.i64.wrap (refs+1)) ⟨#[]⟩ []) with
     |none=>none
     |some (S3,r3)=>pE K n S3 r3 (IntKind.i64.wrap (refs+1)) l
    |false=>match o.kind==7 with
     |false=>pE K n S2 r2 refs l
     |true=>match cq K o.num S2 r2 l with
      |none=>none
      |some (false,S3,r3,_)=>some (true,S3,r3)
      |some (true,S3,r3,l3)=>pE K n S3 r3 refs l3
noncomputable def j7 (K:Ks) (k:Ss->Rn->Int->List gV->List Ou->Option (List Ou)) (S:Ss) (r:Rn) (refs:Int) (l:List gV) (out:List Ou):Option (List Ou):=match cq K r.last.num S r l with
 |none=>none
 |some (false,_,_,_)=>some out
 |some (true,S3,r3,l3)=>k S3 r3 refs l3 out
theorem F1 {k:List Ou->Option (List Ou)} (h:∀out,k out=(k []).map (out++·)) (out b:List Ou):k (out++b)=(k b).map (out++·):=by
 rw[h (out++b),h b,Option.map_map]
 congr 1
 funext x
 simp
theorem Fz {K:Ks} {k:Ss->Rn->Int->List gV->List Ou->Option (List Ou)} (h:∀S r refs l out,k S r refs l out=(k S r refs l []).map (out++·)) (o:Ou) (S:Ss) (r:Rn) (refs:Int) (l:List gV) (out:List Ou):gR K k o S r refs l out=(gR K k o S r refs l []).map (out++·):=by
 unfold gR
 cases (o.kind==8)||(o.kind==9) with
 |true=>rfl
 |false=>
 dsimp only
 cases o.kind==4 with
 |true=>
  dsimp only
  cases pP K S r (.mk 6 (IntKind.i64.wrap (refs+1)) ⟨#[]⟩ []) with
  |none=>rfl
  |some P=>exact F1 (h P.1 P.2 _ l) out [o]
 |false=>
 dsimp only
 cases o.kind==7 with
 |false=>exact F1 (h S r refs l) out [o]
 |true=>
  dsimp only
  cases cq K o.num S r l with
  |none=>rfl
  |some P=>
   obtain⟨b,S3,r3,l3⟩:=P
   cases b with
   |false=>rfl
   |true=>exact F1 (h S3 r3 refs l3) out [o]
theorem vD {K:Ks}:∀(n:Nat) (S:Ss) (r:Rn) (refs:Int) (l:List gV) (out:List Ou),cc K n S r refs l out=(cc K n S r refs l []).map (out++·)
 |0,_,_,_,_,_=>rfl
 |n+1,S,r,refs,l,out=>by
  rw[cc,cc]
  cases nJ K S r with
  |none=>rfl
  |some P=>
   obtain⟨S2,r2⟩:=P;dsimp only
   cases r2.out with
   |none=>exact vD n S2 r2 refs l out
   |some a=>
    dsimp only
    cases aK a S2.o.2 with
    |none=>rfl
    |some o=>exact Fz (vD n) o S2 _ refs l out
theorem A5 {K:Ks} (n:Nat) (S:Ss) (r:Rn) (refs:Int) (l:List gV) (out:List Ou):j7 K (cc K n) S r refs l out=(j7 K (cc K n) S r refs l []).map (out++·):=by
 unfold j7
 cases cq K r.last.num S r l with
 |none=>rfl
 |some P=>
  obtain⟨b,S3,r3,l3⟩:=P
  cases b with
  |false=>simp
  |true=>exact vD n S3 r3 refs l3 out
theorem oQ {K:Ks} (w:Int) (more:List gV):∀(l:List gV) (S:Ss) (r:Rn),cq K w S r (l++more)=(match cq K w S r l with|none=>none|some (true,S2,r2,l2)=>some (true,S2,r2,l2++more)|some (false,S2,r2,_)=>cq K w S2 r2 more)
 | [],S,r=>rfl
 |s::l,S,r=>by
  rw[List.cons_append,cq,cq]
  cases s.kind==1 with
  |true=>
   dsimp only
   cases decide (w>=0) with
   |true=>dsimp only;cases tH K r<;>rfl
   |false=>exact oQ w more l S r
  |false=>
   dsimp only
   cases lW K S r s.val with
   |none=>rfl
   |some P=>
    obtain⟨b,S2,r2⟩:=P
    cases b with
    |true=>rfl
    |false=>exact oQ w more l S2 r2
theorem Dw {f:Fr} {v:Vl}:∀{l:List Ar} {S S2:Ss} {r r2:Rn},kV f v l S r=some (false,S2,r2)->r2=r
 | [],_,_,_,_,h=>by cases h;rfl
 |a::l,S,S2,r,r2,h=>by
  rw[kV]at h;split at h
  ·cases h
  ·cases h
  ·exact Dw h
theorem JS {K:Ks} {S S2:Ss} {r r2:Rn} {v:Ov} (h:lW K S r v=some (false,S2,r2)):r2=r:=by
 unfold lW at h;split at h
 ·cases h;rfl
 ·split at h
  ·cases h
  ·cases h;rfl
  ·split at h
   ·cases h
   ·rename_i ht
    cases h;unfold nL at ht;split at ht
    ·cases ht
    ·split at ht
     ·cases ht
     ·exact Dw ht
   ·cases h
theorem ve {K:Ks} {w:Int}:∀{l l2:List gV} {S S2:Ss} {r r2:Rn},cq K w S r l=some (false,S2,r2,l2)->r2=r
 | [],_,_,_,_,_,h=>by cases h;rfl
 |s::l,l2,S,S2,r,r2,h=>by
  rw[cq]at h;split at h
  ·split at h
   ·split at h<;>cases h
   ·exact ve h
  ·split at h
   ·cases h
   ·cases h
   ·rename_i ho
    exact(ve h).trans (JS ho)
section
variable {K:Ks} {fo:FO} {NR:Nat->Nat->Prop} {m:Nat}
theorem Io (kr:KR K K fo NR m m) {ρ:Nat->Nat->Prop} {S T:Ss} {r q:Rn} {B:Nat} (h:FI K K fo NR ρ S T m m B r q) (hm:r.mode=1) (h1:r.out=none) (h2:q.out=none) {l:List gV} (hl:∀s∈l,xK s.val) (i:Nat) (hi:B+i<=2000000) (out:List Ou):j7 K (cc K i) S r 1000 l out=j7 K (cc K i) T q 1000 l out:=by
 obtain⟨b,S2,T2,r2,q2,l2,ρ2,d1,d2,d3,d4,d5,d6,d7,d8,d9⟩:=jF kr r.last.num l h hm h1 h2 rfl hl;unfold j7;rw[h.last,d1,d2]
 cases b with
 |false=>rfl
 |true=>exact nu kr i 1000 l2 out d4 (d7 rfl) d5 d6 hi fun s hs=>hl s (d9 s hs)
def WR (K:Ks) (fo:FO) (NR:Nat->Nat->Prop) (m B N:Nat) (S:Ss) (r:Rn) (refs:Int) (l:List gV) (x:Option (Bool×Ss×Rn)):Prop:=
 ∃b S' r' ρ',x=some (b,S',r')/\SB fo ρ' S' S'/\(b=true->FI K K fo NR ρ' S' S' m m (B+400*N) r' r'/\r'.mode=1/\r'.out=none/\tY r'.last/\∃F n refs',n<=400*N/\((∀x∈F,x.kind≠4)->refs'=refs)/\∀more i out,cc K (i+n) S r refs (l++more) out=j7 K (cc K i) S' r' refs' more (out++F++[r'.last]))
theorem WR.next {B N k:Nat} {S S2:Ss} {r r2:Rn} {refs refs2:Int} {l l2:List gV} {x:Option (Bool×Ss×Rn)} (h:WR K fo NR m (B+400) N S2 r2 refs2 l2 x) (F0:List Ou) (hk:k<=400) (hr:(∀x∈F0,x.kind≠4)->refs2=refs)
 (hp:∀more i out,cc K (i+k) S r refs (l++more) out=cc K i S2 r2 refs2 (l2++more) (out++F0)):WR K fo NR m B (N+1) S r refs l x:=by
 obtain⟨b,S',r',ρ',e1,e2,e3⟩:=h;refine⟨b,S',r',ρ',e1,e2,fun hb=>?_⟩;obtain⟨g1,g2,g3,g4,F,n,refs',g5,g6,g7⟩:=e3 hb;refine⟨g1.weak (by omega),g2,g3,g4,F0++F,n+k,refs',by omega,fun hx=>?_,fun more i out=>?_⟩
 ·exact(g6 fun x h=>hx x (List.mem_append.2 (.inr h))).trans (hr fun x h=>hx x (List.mem_append.2 (.inl h)))
 ·rw[<-Nat.add_assoc,hp,g7]
  simp only[List.append_assoc]
theorem qY (kr:KR K K fo NR m m):∀(N:Nat) {ρ:Nat->Nat->Prop} {S:Ss} {r:Rn} {B:Nat} (refs:Int) (l:List gV),FI K K fo NR ρ S S m m B r r->r.mode=0->r.out=none->B+400*N<=2000000->(∀s∈l,xK s.val)->WR K fo NR m B N S r refs l (pE K N S r refs l)
 |0,ρ,S,r,B,refs,l,h,_,_,_,_=>⟨false,S,r,ρ,rfl,h.sb,fun e=>by cases e⟩
 |N+1,ρ,S,r,B,refs,l,h,hm,ho,hB,hl=>by
  rw[pE];obtain⟨o,S',r',T',q',ρ',e1,e2,e3,e4,e5,e6,e7⟩:=Ch kr 400 h hm ho ho (by omega);have hS:=Cq kr 400 h hm ho ho (by omega) o S' r' e1;rw[e1]at e2 ⊢;cases e2;dsimp only;rcases e7 with⟨rfl,hm'⟩|ho'
  ·rcases hS with⟨_,g⟩|⟨ho',_⟩
   ·exact(qY kr N refs l e3 hm' e5 (by omega) hl).next [] (k:=400) (Nat.le_refl _) (fun _=>rfl) fun more i out=>by rw[g,List.append_nil]
   ·rcases ho'.1 with⟨_,e|e⟩|⟨_,e,_⟩|⟨_,e⟩|⟨_,e|e|e|e⟩<;>cases e
  ·rcases hS with⟨rfl,_⟩|⟨_,k,k1,k2⟩
   ·rcases ho'.1 with⟨_,e|e⟩|⟨_,e,_⟩|⟨_,e⟩|⟨_,e|e|e|e⟩<;>cases e
   rcases ho'.1 with⟨hm',hk⟩|⟨hm',hk,hn⟩|⟨hm',hk⟩|⟨hm',hk⟩
   ·have g2:((o.kind==8)||(o.kind==9))=true:=by rcases hk with e|e<;>rw[e]<;>rfl
    rw[g2];exact⟨false,S',r',ρ',rfl,e3.sb,fun e=>by cases e⟩
   ·have a1:((o.kind==8)||(o.kind==9))=false:=by rw[hk];rfl
    have a2:(o.kind==4)=false:=by rw[hk];rfl
    have a3:(o.kind==7)=true:=by rw[hk];rfl
    obtain⟨b,S2,T2,r2,q2,l2,ρ2,d1,d2,d3,d4,d5,d6,d7,d8,d9⟩:=jF kr o.num l e3 hm' e5 e6 (by rw[hn]) hl;rw[d1]at d2;cases d2;rw[a1,a2,a3];dsimp only;rw[d1]
    cases b with
    |false=>
     have hr2:=ve d1;subst hr2;refine⟨true,S2,r2,ρ2,rfl,d4.sb,fun _=>⟨d4.weak (by omega),hm',e5,hn ▸ ho'.2,[],k+1,refs,by omega,fun _=>rfl,fun more i out=>?_⟩⟩;rw[<-Nat.add_assoc,k2];unfold gR j7;rw[a1,a2,a3];dsimp only;rw[oQ,d1];dsimp only;rw[<-hn,List.append_nil]
     cases cq K o.num S2 r2 more with
     |none=>rfl
     |some P=>
      obtain⟨c,P1,P2,P3⟩:=P;cases c<;>rfl
    |true=>
     refine(qY kr N refs l2 d4 (d7 rfl) d5 (by omega) fun s hs=>hl s (d9 s hs)).next [o] (k:=k+1) (by omega) (fun _=>rfl) fun more i out=>?_;rw[<-Nat.add_assoc,k2];unfold gR;rw[a1,a2,a3];dsimp only;rw[oQ,d1]
   ·have a1:((o.kind==8)||(o.kind==9))=false:=by rw[hk];rfl
    have a2:(o.kind==4)=true:=by rw[hk];rfl
    obtain⟨r2,q2,d1,d2,d3,d4,d5,d6⟩:=tZ e3 hm' e5 e6 (IntKind.i64.wrap (refs+1));rw[d1]at d2;cases d2;rw[a1,a2];dsimp only;rw[d1];refine(qY kr N _ l d3 d6 d4 (by omega) hl).next [o] (k:=k+1) (by omega) (fun e=>absurd hk (e o List.mem_cons_self)) fun more i out=>?_;rw[<-Nat.add_assoc,k2];unfold gR;rw[a1,a2];dsimp only;rw[d1]
   ·have g1:((o.kind==8)||(o.kind==9))=false/\(o.kind==4)=false/\(o.kind==7)=false:=by rcases hk with e|e|e|e<;>rw[e]<;>exact⟨rfl,rfl,rfl⟩
    rw[g1.1,g1.2.1,g1.2.2];refine(qY kr N refs l e3 hm' e5 (by omega) hl).next [o] (k:=k+1) (by omega) (fun _=>rfl) fun more i out=>?_;rw[<-Nat.add_assoc,k2];unfold gR;rw[g1.1,g1.2.1,g1.2.2]
end
end MN
end
