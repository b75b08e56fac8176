/- Contracts, and the law, for every input. No conditions. -/
import Derived.Test.YtdmopjgjhfhfdaaGreatDoorSZ2
import Derived.Test.YtdmopjgjhfhfdaaGreatDoorTR7
import Derived.Test.YtdmopjgjhfhfdaaGreatDoorChecked
import Derived.Tactics
import Derived.Tactics2
import Derived.Defers
import Derived.Recover
import Derived.Test.YtdmopjgjhfhfdaaGreatDoorMN5
import Derived.Test.YtdmopjgjhfhfdaaGreatDoorAMRngD
import Derived.Test.YtdmopjgjhfhfdaaGreatDoorTR1
import Derived.Lib.ParseIntB
import Derived.Test.YtdmopjgjhfhfdaaGreatDoorTK1
import Derived.Shelf.Strconv.Itoa3
import Derived.Lib.ItoaLen
import Derived.Shelf.LaysC
import Derived.Ground.NamesProg
import Derived.Shelf.Strconv.ParseIntPublic10
set_option linter.all false
section
open Go Go.AM Go.Proofs
set_option maxRecDepth 100000
namespace TR
theorem sizeOf_spec (e:Ex) (he:wE e≤1048640):av Tryz.prog 33 [.p (eE e)] [] (.p (.i .i64 (oG e))) []:=by
 have hall:=JF e he;have hmem:=fun x (h:x∈fW e)=>tq e h;have hsl:=size_le e;have hwl:=wu e;have hsum:=xm e;rw[←hsum]at hsl hwl ⊢;clear hsum;generalize fW e=W at hall hmem hsl hwl ⊢;obtain⟨k0,n0,t0,ns0,ts0,as0,ms0,p0⟩:=e;refine av.intro (ah Tryz.prog) az Tryz.func33 rfl (by rfl) (by kernel_rfl) (by show 1≤_;decide) rfl ?_;(conv=>whnf);refine bg [] 300 hall ?_;(conv=>whnf);refine bK (ah _) az (by kernel_rfl) W.length [3,9,10,11] [] (fun k (s:Int)=>[.p (.i .i64 s),.p (.sl 8 (dZ W)),.p (.i .i64 (dZ W).length),.p (.i .i64 (ix k))]) (fun _ _=>[]) (fun k s=>s=oE (W.take k)) 0 ⟨rfl,rfl,rfl,rfl⟩ rfl ?_;intro k s hk hs;(conv=>whnf);refine aj ?_ ?_<;>intro h1<;>conv=>whnf
 ·have hk1:=cj h1 (by rw[cA]) hk (by omega)
  obtain⟨b,hb1⟩:∃b,W[k]?=some b:=⟨W[k],by simp[hk1]⟩
  refine bM (nT hb1) (by omega) ?_;have hbm:=hmem b (List.mem_of_getElem? hb1);have hts:oE (W.take (k+1))=oE (W.take k)+LZ b:=by rw[cJ hb1,oC];simp[oE]
  have htl:=Lm W (k+1);obtain⟨b1,b2,b3,b4,b5,b6,b7,b8⟩:=b;have hbl:=tP b1 b2 b3 b4 b5 b6 b7 b8;rw[LZ]at hts;simp only[Ex.dR]at hts;(conv=>whnf)
  refine bK (ah _) az (by kernel_rfl) b7.length [3,9,10,11,18,19,20] [] (fun j (s:Int)=>[.p (.i .i64 s),.p (.sl 8 (dZ W)),.p (.i .i64 (dZ W).length),.p (.i .i64 (ix k)),.p (.sl 12 (jz b7)),.p (.i .i64 (jz b7).length),.p (.i .i64 (ix j))]) (fun _ _=>[])
   (fun j s'=>s'=oE (W.take k)+1+bT ((b7.map eR.pat).take j)) (IntKind.i64.wrap (s+1)) ⟨rfl,rfl,rfl,rfl⟩ (by rw[hs,wrap64 (by omega) (by omega)];simp[bT]) ?_
  intro j s2 hj hs2;have hpl:=Eh (b7.map eR.pat) (j+1);(conv=>whnf);refine aj ?_ ?_<;>intro h2<;>conv=>whnf
  ·have hj1:=cj h2 (by rw[iT]) hj (by omega)
   obtain⟨c,hc1⟩:∃c,b7[j]?=some c:=⟨b7[j],by simp[hj1]⟩
   refine bM (su hc1) (by omega) ?_;have hcw:=nI (k:=b1) (n:=b2) (t:=b3) (ns:=b4) (ts:=b5) (xs:=b6) (p:=b8) (List.mem_of_getElem? hc1);have hps:=He c.pat (by omega);have hpn:=G7 c.pat
   have hts2:bT ((b7.map eR.pat).take (j+1))=bT ((b7.map eR.pat).take j)+fe c.pat:=by
    rw[cJ (show(b7.map eR.pat)[j]?=some c.pat by rw[List.getElem?_map,hc1];rfl),lZ];simp[bT]
   generalize iC c.pat (fe c.pat)=ps at hps hpn;obtain⟨⟨ck,cn,ct,ca⟩,⟨c1,c2,c3,c4,c5,c6,c7,c8⟩⟩:=c;simp only[eR.pat]at hps hpn hts2;(conv=>whnf);refine iX hps ?_;(conv=>whnf);refine⟨hj1,_,⟨rfl,rfl,rfl,rfl⟩,?_⟩;rw[gP,hpn,hs2,wrap64 (by omega) (by omega),hts2];omega
  ·have hj1:=cm h2 (by rw[iT]) hj (by omega)
   refine⟨hk1,s2,⟨rfl,rfl,rfl,rfl⟩,?_⟩;have hjl:bT ((b7.map eR.pat).take j)=bT (b7.map eR.pat):=by rw[hj1,List.take_of_length_le (by simp)]
   omega
 ·have hk1:=cm h1 (by rw[cA]) hk (by omega)
  exact⟨.inl (pi (by rw[hs,hk1,List.take_length])),trivial⟩
end TR
end
section
open Go Go.AM Go.Proofs
set_option maxRecDepth 100000
namespace TR
theorem lq (l:List zB):l.length≤PV.cG (l.map cU):=u7 cU (fun x=>by have:=v8 x;unfold HQ at this;omega) l
theorem wJ (l:List JM):l.length≤PV.cG (l.map gN):=u7 gN (fun x=>by rw[wj];omega) l
theorem Cw (l:List x7):l.length≤PV.cG (l.map gZ):=u7 gZ (fun x=>by rw[vW];omega) l
def mV (l:List x7):List zB:=l.flatMap (·.funcs)
def oP (p:ql):List zB:=mV p.impls++p.funcs
theorem yB:∀(l:List x7),PV.cG ((mV l).map cU)≤PV.cG (l.map gZ)
 | []=>by simp[mV]
 |m::r=>by
  have:=yB r;have h2:=vW m;simp only[mV,List.flatMap_cons,List.map_append,List.map_cons,PV.dS,PV.cG]at this ⊢;omega
theorem Ib (l:List x7) (m:x7):mV (l++[m])=mV l++m.funcs:=by simp[mV]
theorem HB (l:List x7) (k:Nat):(mV (l.take k)).length≤(mV l).length:=by
 have:mV l=mV (l.take k)++mV (l.drop k):=by unfold mV;rw[←List.flatMap_append,List.take_append_drop]
 rw[this];simp
theorem rF (p:ql):PV.cG ((oP p).map cU)≤uo p:=by
 rw[oP,List.map_append,PV.dS,qf];have:=yB p.impls;omega
theorem Dy (p:ql) (hp:uo p≤1048576):aU Tryz.prog 48 [.p (kP p)] (.so 15 ((oP p).map cU)):=by
 have hw:=qf p;have hl1:=Cw p.impls;have hl2:=lq p.funcs;have hl3:=lq (mV p.impls);have hl4:=yB p.impls;obtain⟨nm,ver,us,ds,ts,is,fs,acs⟩:=p;simp only[oP]at *;refine aU.intro (ah Tryz.prog) az Tryz.func48 rfl (by rfl) (by kernel_rfl) (by show 1≤_;decide) rfl ?_;(conv=>whnf);refine nM 3 14 rfl ?_
 refine bK (ah _) az (by kernel_rfl) is.length [1,3,7,8,9] [1] (fun k (s:List zB)=>[.ptr 1 0,.so 15 (s.map cU),.p (.sl 3 (is.map gZ)),.p (.i .i64 (is.map gZ).length),.p (.i .i64 (ix k))])
  (fun _ _=>[.cells [.p (.s nm),.p (.i .i64 ver),.p (.sl 3 (us.map kf)),.p (.sl 3 (ds.map j7)),.p (.sl 2 (ts.map j9)),.p (.sl 3 (is.map gZ)),.p (.sl 15 (fs.map cU)),.p (.sl 14 (acs.map gN))]]) (fun k s=>s=mV (is.take k)) [] ⟨rfl,rfl,rfl,rfl⟩ (by simp[mV]) ?_
 intro k s hk hs;(conv=>whnf);refine aj ?_ ?_<;>intro h1<;>conv=>whnf
 ·have hk1:=cj h1 (by simp) hk (by omega)
  obtain⟨b,hb1⟩:∃b,is[k]?=some b:=⟨_,List.getElem?_eq_getElem hk1⟩
  refine bM (x:=gZ b) (by simp[hb1]) (by omega) ?_;have hts:mV (is.take (k+1))=mV (is.take k)++b.funcs:=by rw[cJ hb1,Ib]
  have htl:=HB is (k+1);rw[hts,←hs,List.length_append]at htl;obtain⟨b1,b2,b3⟩:=b;(conv=>whnf);refine ag (show((s.map cU).length+(b3.map cU).length)*272≤140737488355328 by simp at htl ⊢;omega) ?_;(conv=>whnf);refine⟨hk1,s++b3,⟨rfl,?_,rfl,rfl⟩,by rw[hs,hts]⟩;rw[List.map_append];rfl
 ·have hk1:=cm h1 (by simp) hk (by omega)
  have hs2:s=mV is:=by rw[hs,hk1,List.take_length]
  subst hs2;refine ag (show(((mV is).map cU).length+(fs.map cU).length)*272≤140737488355328 by simp;omega) ?_;(conv=>whnf);rw[List.map_append];exact .inl rfl
def jK (p:ql):List Ex:=(oP p).map (·.body)++p.actors.map (·.body)
theorem Cq {p:ql} {e:Ex} (h:e∈jK p):wE e≤uo p:=by
 rcases List.mem_append.1 h with h|h
 ·obtain⟨f,hf,rfl⟩:=List.mem_map.1 h
  have h1:=tQ cU hf;have h2:=rF p;have h3:=v8 f;unfold HQ at h3;omega
 ·obtain⟨f,hf,rfl⟩:=List.mem_map.1 h
  have h1:=tQ gN hf;rw[wj]at h1;rw[qf];omega
theorem zP (p:ql) (hp:uo p≤1048576):aU Tryz.prog 32 [.p (kP p)] (.p (.sl 8 (dZ (jK p)))):=by
 have hw:=qf p;have h0:=Dy p hp;have hl1:=rF p;have hl2:=lq (oP p);have hl3:=wJ p.actors;rw[jK];generalize oP p=F at h0 hl1 hl2;generalize uo p=W at *;obtain⟨nm,ver,us,ds,ts,is,fs,acs⟩:=p;simp only at *;refine aU.intro (ah Tryz.prog) az Tryz.func32 rfl (by rfl) (by kernel_rfl) (by show 1≤_;decide) rfl ?_;(conv=>whnf);refine iX h0 ?_;(conv=>whnf);refine nM 3 7 rfl ?_
 refine bK (ah _) az (by kernel_rfl) F.length [1,3,9,10,11] [1] (fun k (s:List Ex)=>[.ptr 1 0,.so 8 (dZ s),.so 15 (F.map cU),.p (.i .i64 (F.map cU).length),.p (.i .i64 (ix k))])
  (fun _ _=>[.cells [.p (.s nm),.p (.i .i64 ver),.p (.sl 3 (us.map kf)),.p (.sl 3 (ds.map j7)),.p (.sl 2 (ts.map j9)),.p (.sl 3 (is.map gZ)),.p (.sl 15 (fs.map cU)),.p (.sl 14 (acs.map gN))]]) (fun k s=>s=(F.take k).map (·.body)) [] ⟨rfl,rfl,rfl,rfl⟩ (by simp) ?_
 intro k s hk hs;have hsl:s.length≤1048576:=by rw[hs];simp;omega
 (conv=>whnf);refine aj ?_ ?_<;>intro h1<;>conv=>whnf
 ·have hk1:=cj h1 (by simp) hk (by omega)
  obtain⟨b,hb1⟩:∃b,F[k]?=some b:=⟨_,List.getElem?_eq_getElem hk1⟩
  refine bM (x:=cU b) (by simp[hb1]) (by omega) ?_;have hts:(F.take (k+1)).map (·.body)=(F.take k).map (·.body)++[b.body]:=by rw[cJ hb1,List.map_append];rfl
  obtain⟨b1,b2,b3,b4,⟨b5,b6,b7⟩,⟨c1,c2,c3,c4,c5,c6,c7,c8⟩⟩:=b;(conv=>whnf);refine ag (show((dZ s).length+1)*136≤140737488355328 by rw[cA];omega) ?_;(conv=>whnf);refine⟨hk1,s++[.mk c1 c2 c3 c4 c5 c6 c7 c8],⟨rfl,?_,rfl,rfl⟩,by rw[hs,hts]⟩;rw[sZ];rfl
 ·have hk1:=cm h1 (by simp) hk (by omega)
  have hs2:s=F.map (·.body):=by rw[hs,hk1,List.take_length]
  subst hs2
  refine bK (ah _) az (by kernel_rfl) acs.length [3,22,23,24] [] (fun k (s:List Ex)=>[.so 8 (dZ s),.p (.sl 14 (acs.map gN)),.p (.i .i64 (acs.map gN).length),.p (.i .i64 (ix k))]) (fun _ _=>[])
   (fun k s=>s=F.map (·.body)++(acs.take k).map (·.body)) (F.map (·.body)) ⟨rfl,rfl,rfl,rfl⟩ (by simp) ?_
  intro j s hj hs;have hsl:s.length≤2097152:=by rw[hs];simp;omega
  (conv=>whnf);refine aj ?_ ?_<;>intro h2<;>conv=>whnf
  ·have hj1:=cj h2 (by simp) hj (by omega)
   obtain⟨b,hb1⟩:∃b,acs[j]?=some b:=⟨_,List.getElem?_eq_getElem hj1⟩
   refine bM (x:=gN b) (by simp[hb1]) (by omega) ?_;have hts:(acs.take (j+1)).map (·.body)=(acs.take j).map (·.body)++[b.body]:=by rw[cJ hb1,List.map_append];rfl
   obtain⟨b1,b2,b3,⟨b4,b5,b6⟩,⟨c1,c2,c3,c4,c5,c6,c7,c8⟩⟩:=b;(conv=>whnf);refine ag (show((dZ s).length+1)*136≤140737488355328 by rw[cA];omega) ?_;(conv=>whnf);refine⟨hj1,s++[.mk c1 c2 c3 c4 c5 c6 c7 c8],⟨rfl,?_,rfl,rfl⟩,by rw[hs,hts];simp⟩;rw[sZ];rfl
  ·have hj1:=cm h2 (by simp) hj (by omega)
   have hs2:s=F.map (·.body)++acs.map (·.body):=by rw[hs,hj1,List.take_length]
   subst hs2;exact .inr (.inl rfl)
def Hu:List Ex→Int→Int
 | [],n=>n
 |e::r,n=>Hu r (IntKind.i64.wrap (n+oG e))
theorem Et (p:ql) (hp:uo p≤1048576):av Tryz.prog 17 [.p (kP p)] [] (.p (.b (decide (Hu (jK p) 0≤400)))) []:=by
 have h0:=zP p hp;have hB:=fun e (h:e∈jK p)=>Cq h
 have hl:(jK p).length≤2097152:=by
  have:=lq (oP p);have:=rF p;have:=wJ p.actors;have:=qf p;simp[jK];omega
 generalize jK p=Bs at h0 hB hl;generalize uo p=W at *;obtain⟨nm,ver,us,ds,ts,is,fs,acs⟩:=p;refine av.intro (ah Tryz.prog) az Tryz.func17 rfl (by rfl) (by kernel_rfl) (by show 1≤_;decide) rfl ?_;(conv=>whnf);refine iX h0 ?_;(conv=>whnf);refine bK (ah _) az (by kernel_rfl) Bs.length [3,7,8,9] [] (fun k (s:Int)=>[.p (.i .i64 s),.p (.sl 8 (dZ Bs)),.p (.i .i64 (dZ Bs).length),.p (.i .i64 (ix k))]) (fun _ _=>[]) (fun k s=>Hu Bs 0=Hu (Bs.drop k) s) 0 ⟨rfl,rfl,rfl,rfl⟩ rfl ?_;intro k s hk hs;(conv=>whnf);refine aj ?_ ?_<;>intro h1<;>conv=>whnf
 ·have hk1:=cj h1 (by rw[cA]) hk (by omega)
  obtain⟨b,hb1⟩:∃b,Bs[k]?=some b:=⟨_,List.getElem?_eq_getElem hk1⟩
  refine bM (nT hb1) (by omega) ?_;have hc:=sizeOf_spec b (by have:=hB b (List.mem_of_getElem? hb1);omega);rw[drop_cons hb1,Hu]at hs;generalize oG b=z at hc hs;obtain⟨c1,c2,c3,c4,c5,c6,c7,c8⟩:=b;(conv=>whnf);refine bg [] 300 hc ?_;(conv=>whnf);exact⟨hk1,IntKind.i64.wrap (s+z),⟨rfl,rfl,rfl,rfl⟩,hs⟩
 ·have hk1:=cm h1 (by rw[cA]) hk (by omega)
  rw[hk1,List.drop_length,Hu]at hs;exact⟨.inl (pb (by rw[hs])),trivial⟩
end TR
end
section
open Go Go.Proofs
set_option maxRecDepth 100000
namespace PA
theorem Fs (w:World):(Instr.typeAssert .nilIface 20 148 true).run Tryz.prog w=.ok (.tuple #[.agg #[.int .i64 0],.bool false]) w:=by kernel_rfl
theorem KQ (w:World):(binOp .neq 20 .nilIface .nilIface).run Tryz.prog w=.ok (.bool false) w:=by kernel_rfl
set_option maxHeartbeats 1000000 in
theorem Ew (p q r:Addr) (w:World):
 CallsD Tryz.prog 42 #[.pointer (some p),.pointer (some q),.pointer (some r)] .returning w fun e u' w'=>e=.returned (.tuple #[])∧u'=.returning∧w'=(w.alloc (.cells #[.int .i64 0] 148)).setCell ⟨w.heap.size,0,none⟩ (.int .i64 0):=by
 refine callsD_of_wpS Tryz.func42 rfl fun c₀ cs hu=>?_
 apply wpS_seq
 apply wpS_region
 simp[wpOpsS,go_sem,recoverD,hu,Tryz.ntmps42,Exit.thenS]
 apply wpS_seq
 apply wpS_region
 simp[wpOpsS,go_sem,Exit.thenS,Fs]
 apply wpS_seq
 apply wpS_region
 simp[wpOpsS,go_sem,Exit.thenS];refine wpS_cond (t:=false) (by simp[Act.eval,Array.replicate]) ?_;simp only[Bool.false_eq_true,if_false]
 apply wpS_seq
 apply wpS_region
 simp[wpOpsS,go_sem,Exit.thenS,KQ];refine wpS_cond (t:=false) (by simp[Act.eval,Array.replicate]) ?_;simp only[Bool.false_eq_true,if_false];refine wpS_of_wp (wp_skip ?_);cases c₀
 simp_all [bodyPostS,results,Tryz.results42]
end PA
end
section
open Go Go.AM Go.Proofs TK
set_option maxRecDepth 100000
namespace PA
theorem az:Tryz.prog.follows .mixedOrders=true:=by kernel_rfl
end PA
end
section
open Go Go.AM Go.Proofs TK
set_option maxRecDepth 100000
namespace PA
section
variable {T:List Tk} {en:Int} {a:Nat} {α:Type} {e:α→AV}
end
end PA
end
section
open Go Go.AM Go.Proofs TK
set_option maxRecDepth 100000
namespace PA
section
variable {T:List Tk} {en:Int}
end
end PA
end
section
open Go Go.AM Go.Proofs TK
set_option maxRecDepth 100000
end
section
open Go Go.AM Go.Proofs TK TR
set_option maxRecDepth 100000
end
section
open Go Go.AM Go.Proofs TK TR
set_option maxRecDepth 100000
end
section
open Go Go.AM Go.Proofs TK TR
set_option maxRecDepth 100000
end
section
open Go Go.AM Go.Proofs TK TR
set_option maxRecDepth 100000
namespace PA
section
variable {T:List Tk} {en:Int} {a:Nat} {α:Type} {e:α→AV}
end
end PA
end
section
open Go Go.AM Go.Proofs TK TR
set_option maxRecDepth 100000
end
section
open Go Go.AM Go.Proofs TK TR
set_option maxRecDepth 100000
end
section
open Go Go.AM Go.Proofs TK TR
set_option maxRecDepth 100000
namespace PA
section
variable {G:Nat} {tab:List Value} {T:List Tk} {en:Int} {a:Nat} {α:Type} {e:α→AV}
end
def Jj (s:ByteArray):Int×Bool:=match Lib.parseIntB 64 s.data.toList with
 |.ok v=>(v,false)
 |.range=>(Lib.intSat 64 s.data.toList,true)
 |_=>(0,true)
def PM {α:Type} (x:Lib.NumEnd α):Bool:=match x with
 |.ok _=>true
 |.range=>true
 |_=>false
def Qd (G:Nat) (tab:List Value):Prop:=∀s:ByteArray,s.size≤5000→PM (Lib.parseIntB 64 s.data.toList)=true→av Tryz.prog 93 [.p (.s s),.p (.i .i64 10),.p (.i .i64 64)] [(1000000000,.bH G tab)] (.cz [.p (.i .i64 (Jj s).1),.vD (Jj s).2]) [(1000000000,.bH G tab)]
structure Qq (T:List Tk):Prop where
 len:T.length≤4000
 num:∀t∈T,t.kind=4→∀pre:ByteArray,pre=⟨#[]⟩∨pre=⟨#[45]⟩→(pre++B t.text).size≤5000∧PM (Lib.parseIntB 64 (pre++B t.text).data.toList)=true
end PA
end
section
open Go Go.AM Go.Proofs TK TR
set_option maxRecDepth 100000
end
section
open Go Go.AM Go.Proofs TK TR
set_option maxRecDepth 100000
end
section
open Go Go.AM Go.Proofs
set_option maxRecDepth 100000
namespace TK
theorem La (l:Bs) (c:UInt8) (h:0<l.count c):∃m:Nat,Lib.indexByte l c=m∧m<l.length∧eX c l=l.take m::eX c (l.drop (m+1))∧(l.drop (m+1)).count c+1=l.count c:=by
 induction l with
 |nil=>simp at h
 |cons x r ih=>
  rw[show eX c (x::r)=bif x==c then []::eX c r else match eX c r with|p::ps=>(x::p)::ps | []=>[[x]] from rfl];unfold Lib.indexByte
  cases hx:x==c with
  |true=>
   have e:=eq_of_beq hx;subst e;exact⟨0,by simp,by simp,by simp,by simp⟩
  |false=>
   have hne:x≠c:=by intro e;subst e;simp at hx
   have hc:r.count c=(x::r).count c:=by rw[List.count_cons_of_ne hne]
   obtain⟨m,h1,h2,h3,h4⟩:=ih (by omega);refine⟨m+1,?_,by simp;omega,?_,?_⟩
   ·rw[h1,if_neg (by simp),if_neg (by simp)];omega
   ·rw[h3];rfl
   ·simp only[List.drop_succ_cons];rw[←hc];exact h4
theorem Ei (l:Bs) (c:UInt8) (h:l.count c=0):eX c l=[l]:=by
 induction l with
 |nil=>rfl
 |cons x r ih=>
  have hne:x≠c:=by intro e;subst e;simp at h
  have hx:(x==c)=false:=by simpa using hne
  rw[eX,hx,ih (by rw[List.count_cons_of_ne hne]at h;exact h)];rfl
theorem Al (l:Bs) (c:UInt8):(eX c l).length=l.count c+1:=by
 induction l with
 |nil=>rfl
 |cons x r ih=>
  rw[eX]
  cases hx:x==c with
  |true=>have e:=eq_of_beq hx;subst e;simp[ih]
  |false=>
   have hne:x≠c:=by intro e;subst e;simp at hx
   rw[List.count_cons_of_ne hne]
   cases hs:eX c r with
   |nil=>rw[hs]at ih;simp at ih
   |cons p ps=>rw[hs]at ih;simpa using ih
theorem AN (l:Bs) (c:UInt8):l.count c≤l.length:=List.count_le_length
theorem LV {α:Type} (a:List α) (x y:α) (b:List α):(a++x::b).set a.length y=a++y::b:=by
 rw[List.set_append_right _ _ (Nat.le_refl _)];simp
theorem Kv {α:Type} (a:List α) (k:Nat) (h:a.length=k) (x y:α) (b:List α):(a++x::b).set k y=a++y::b:=by subst h;exact LV a x y b
theorem Ax (n:Nat) (h:0<n) (x:PV):List.replicate n x=x::List.replicate (n-1) x:=by
 obtain⟨m,rfl⟩:∃m,n=m+1:=⟨n-1,by omega⟩
 rfl
theorem Bn (l:Bs) (c:UInt8) (sep:ByteArray) (hl:l.length≤1048576) (RR:List Bs) (hRR:eX c l=RR) (N:Nat) (hN:l.count c=N)
 (hc:aU Tryz.prog 52 [.p (.s (B l)),.p (.s sep)] (.p (.i .i64 N)))
 (hi:∀r,aU Tryz.prog 80 [.p (.s (B r)),.p (.s sep)] (.p (.i .i64 (Lib.indexByte r c))))
 (hse:(sep.toList==ByteArray.toList ⟨#[]⟩)=false) (hsz:sep.size=1):
 aU Tryz.prog 175 [.p (.s (B l)),.p (.s sep),.p (.i .i64 0),.p (.i .i64 (-1))] (.p (.sl 1 (RR.map bD))):=by
 have hcl:=AN l c;have hR:=Al l c;rw[hN]at hcl hR;refine aU.intro (ah Tryz.prog) az Tryz.func175 rfl (by rfl) (by kernel_rfl) (by show 4≤_;decide) rfl ?_;(conv=>whnf);refine bC hse ?_;(conv=>whnf);refine iX hc ?_;(conv=>whnf);have e1:IntKind.i64.wrap ((N:Int)+1)=((N+1:Nat):Int):=by rw[wrap64 (by omega) (by omega)];omega
 have e2:(IntKind.i64.wrap (((B l).size:Int)+1))=((l.length+1:Nat):Int):=by rw[rV,wrap64 (by omega) (by omega)];omega
 rw[e1,e2,if_neg (by omega)];refine ag (show _∧_∧((N+1:Nat):Int)*((16:Nat):Int)≤140737488355328 from⟨rfl,by omega,by omega⟩) ?_;(conv=>whnf);have e3:IntKind.i64.wrap (((N+1:Nat):Int)-1)=(N:Int):=by rw[wrap64 (by omega) (by omega)];omega
 refine bK (ah _) az (by kernel_rfl) N [0,1,2,3,9,10] [31] (fun k (s:List Bs×Bs)=>[.p (.s (B s.2)),.p (.s sep),.p (.i .i64 0),.p (.i .i64 (IntKind.i64.wrap (((N+1:Nat):Int)-1))),.ar 31,.p (.i .i64 (ix k))])
  (fun k s=>[.arr (s.1.map bD++List.replicate (N+1-k) (bD []))]) (fun k s=>s.1.length=k∧RR=s.1++eX c s.2∧k+s.2.count c=N∧s.2.length≤l.length) ([],l) ⟨rfl,rfl,rfl,rfl⟩ ⟨rfl,by simpa using hRR.symm,by simpa using hN,Nat.le_refl _⟩ ?_
 rintro k s hk ⟨q1,q2,q3,q4⟩;have hkx:ix k=(k:Int):=nh (by omega);(conv=>whnf);refine aj ?_ ?_<;>intro h1
 ·rw[e3,hkx]at h1
  have hk1:k<N:=by simpa using h1
  obtain⟨m,m1,m2,m3,m4⟩:=La s.2 c (by omega);have hq:=hi s.2;rw[m1]at hq;have u1:IntKind.i64.wrap ((m:Int)+0)=(m:Int):=by rw[wrap64 (by omega) (by omega)];omega
  have u2:IntKind.i64.wrap ((m:Int)+(sep.size:Int))=((m+1:Nat):Int):=by rw[hsz,wrap64 (by omega) (by omega)];omega
  have x1:(B s.2).extract (0:Int).toNat (IntKind.i64.wrap ((m:Int)+0)).toNat=B (s.2.take m):=by rw[u1,IN];simp
  have x2:(B s.2).extract (IntKind.i64.wrap ((m:Int)+(sep.size:Int))).toNat (((B s.2).size:Nat):Int).toNat=B (s.2.drop (m+1)):=by
   rw[u2,IN,rV,Int.toNat_natCast,Int.toNat_natCast,List.take_of_length_le (by rw[List.length_drop];exact Nat.le_refl _)]
  (conv=>whnf);refine iX hq ?_;(conv=>whnf);refine ag (by rw[u1,rV];omega) ?_;rw[x1];(conv=>whnf);refine ag (by rw[hkx];exact⟨by omega,by rw[List.length_append,List.length_map,List.length_replicate];omega⟩) ?_;(conv=>whnf);refine ag (by rw[hkx,List.length_append,List.length_map,List.length_replicate];omega) ?_;(conv=>whnf);refine ag (by rw[u2,rV];omega) ?_;rw[x2];(conv=>whnf);refine⟨hk1,(s.1++[s.2.take m],s.2.drop (m+1)),⟨?_,rfl,rfl,rfl⟩,by simp[q1],by rw[q2,m3];simp,(by omega:k+1+(s.2.drop (m+1)).count c=N),by rw[List.length_drop];omega⟩;refine congrArg (fun z=>[some (bq.arr z)]) ?_;show(s.1.map bD++List.replicate (N+1-k) (bD [])).set (ix k).toNat (bD (s.2.take m))=(s.1++[s.2.take m]).map bD++List.replicate (N+1-(k+1)) (bD []);rw[hkx,Ax (N+1-k) (by omega),Int.toNat_natCast,Kv _ k (by simp[q1]),show N+1-k-1=N+1-(k+1) by omega];simp
 ·rw[e3,hkx]at h1
  have hk1:k=N:=by simp at h1;omega
  have c0:s.2.count c=0:=by omega
  have hkx2:IntKind.i64.wrap (ix k+1)=((k+1:Nat):Int):=by rw[hkx,wrap64 (by omega) (by omega)];omega
  rw[Ei s.2 c c0]at q2;(conv=>whnf);refine ag (by rw[hkx];exact⟨by omega,by rw[List.length_append,List.length_map,List.length_replicate];omega⟩) ?_;(conv=>whnf);refine ag (by rw[hkx,List.length_append,List.length_map,List.length_replicate];omega) ?_
  have hx:(s.1.map bD++List.replicate (N+1-k) (bD [])).set (ix k).toNat (bD s.2)=RR.map bD:=by
   rw[hkx,Ax (N+1-k) (by omega),Int.toNat_natCast,Kv _ k (by simp[q1]),show N+1-k-1=0 by omega,q2];simp
  conv=>whnf
  refine ag (by
   show IntKind.i64.wrap (ix k+1)=(((s.1.map bD++List.replicate (N+1-k) (bD [])).set (ix k).toNat (bD s.2)).length:Int)
   rw[hx,hkx2,List.length_map,←hRR,hR,hk1]) ?_
  (conv=>whnf);exact .inr (.inr ⟨_,_,rfl,rfl,congrArg (fun z=>AV.p (PV.sl 1 z)) hx.symm⟩)
theorem zl (l:Bs) (c:UInt8) (hl:l.length≤1048576):aU Tryz.prog 175 [.p (.s (B l)),.p (.s (B [c])),.p (.i .i64 0),.p (.i .i64 (-1))] (.p (.sl 1 ((eX c l).map bD))):=
 Bn l c (B [c]) hl _ rfl _ rfl (rW l c) (fun r=>index_spec r c) (by rw[show(⟨#[]⟩:ByteArray)=B [] from rfl,tD];rfl) rfl
end TK
end
section
open Go Go.AM Go.Proofs
set_option maxRecDepth 100000
namespace TK
theorem wV (l:Bs) (sep:ByteArray) (hs:sep=B [32]) (hl:l.length≤1048576):aU Tryz.prog 150 [.p (.s (B l)),.p (.s sep)] (.p (.sl 1 ((eX 32 l).map bD))):=by
 have h:=zl l 32 hl;rw[←hs]at h;refine aU.intro (ah Tryz.prog) az Tryz.func150 rfl (by rfl) (by kernel_rfl) (by show 2≤_;decide) rfl ?_;(conv=>whnf);refine iX h ?_;(conv=>whnf);exact .inl rfl
theorem xP:aU Tryz.prog 123 [] (.p (.sl 1 (rz.map bD))):=by
 have h:=wV IQ (B [32]) rfl (by decide);rw[show eX 32 IQ=rz from rfl]at h;refine aU.intro (ah Tryz.prog) az Tryz.func123 rfl (by rfl) (by kernel_rfl) (by show 0≤_;decide) rfl ?_;(conv=>whnf);refine iX h ?_;(conv=>whnf);exact .inl rfl
def Bi (x:Bs):List Bs→Nat→Int
 | [],_=>-1
 |a::r,k=>bif x==a then (k:Int) else Bi x r (k+1)
theorem GF (x:Bs):∀(l:List Bs) (k:Nat),decide (Bi x l k≥0)=l.contains x
 | [],k=>by simp[Bi]
 |a::r,k=>by
  rw[Bi,List.contains_cons]
  cases h:x==a with
  |true=>simp
  |false=>rw[cond_false,GF x r (k+1),Bool.false_or]
theorem HS (l:List Bs) (x:Bs) (hb:l.length<9223372036854775807):aU Tryz.prog 149 [.p (.sl 1 (l.map bD)),.p (.s (B x))] (.p (.i .i64 (Bi x l 0))):=by
 refine aU.intro (ah Tryz.prog) az Tryz.func149 rfl (by rfl) (by kernel_rfl) (by show 2≤_;decide) rfl ?_;(conv=>whnf);refine bK (ah _) az (by kernel_rfl) l.length [0,1,6,7,8] [] (fun k _=>[.p (.sl 1 (l.map bD)),.p (.s (B x)),.p (.sl 1 (l.map bD)),.p (.i .i64 (l.map bD).length),.p (.i .i64 (ix k))]) (fun _ _=>[]) (fun k _=>Bi x l 0=Bi x (l.drop k) k) () ⟨rfl,rfl,rfl,rfl⟩ rfl ?_;intro k s hk hn;(conv=>whnf);refine aj ?_ ?_<;>intro h1<;>conv=>whnf
 ·have hk1:=cj h1 (by simp) hk (by omega)
  obtain⟨b,hb1⟩:∃b,l[k]?=some b:=⟨l[k],by simp[hk1]⟩
  rw[drop_cons hb1,Bi]at hn;refine bM (x:=bD b) (by simp[hb1]) (by omega) ?_;(conv=>whnf);refine aj ?_ ?_<;>intro h2<;>conv=>whnf
  ·rw[tD]at h2
   refine .inl (pi ?_);rw[hn,h2,nh (by omega)];rfl
  ·rw[tD]at h2
   exact⟨hk1,(),⟨rfl,rfl,rfl,rfl⟩,by rw[hn,h2];rfl⟩
 ·have hk1:=cm h1 (by simp) hk (by omega)
  rw[hk1,List.drop_length,Bi]at hn;exact .inl (pi hn.symm)
theorem Ii (l:AV) (x:Bs) (i:Int) (h:aU Tryz.prog 149 [l,.p (.s (B x))] (.p (.i .i64 i))) (hl:∃s xs,l=.p (.sl s xs)):aU Tryz.prog 122 [l,.p (.s (B x))] (.p (.b (decide (i≥0)))):=by
 obtain⟨s,xs,rfl⟩:=hl;refine aU.intro (ah Tryz.prog) az Tryz.func122 rfl (by rfl) (by kernel_rfl) (by show 2≤_;decide) rfl ?_;(conv=>whnf);refine iX h ?_;(conv=>whnf);exact .inl rfl
theorem Eo (l:List Bs) (x:Bs) (hb:l.length<9223372036854775807):aU Tryz.prog 122 [.p (.sl 1 (l.map bD)),.p (.s (B x))] (.p (.b (l.contains x))):=by
 rw[←GF x l 0];exact Ii _ x _ (HS l x hb) ⟨_,_,rfl⟩
end TK
end
section
open Go Go.AM Go.Proofs TK TR
set_option maxRecDepth 100000
end
section
open Go Go.AM Go.Proofs TK TR
set_option maxRecDepth 100000
end
section
open Go Go.AM Go.Proofs TK TR
set_option maxRecDepth 100000
end
section
open Go Go.AM Go.Proofs TK TR
set_option maxRecDepth 100000
end
section
open Go Go.AM Go.Proofs TK TR
set_option maxRecDepth 100000
end
section
open Go Go.AM Go.Proofs TK TR
set_option maxRecDepth 100000
end
section
open Go Go.AM Go.Proofs TK TR
set_option maxRecDepth 100000
end
section
open Go Go.AM Go.Proofs TK TR
set_option maxRecDepth 100000
end
section
open Go Go.AM Go.Proofs TK TR
set_option maxRecDepth 100000
end
section
namespace Go.AM
open Go.ChangeShapes Go.WideShapes Go.ChangeAt Go.RowKit
theorem zm {H:Type} {enc:TypeId×Value→H} {P:Program} {F:Nat} {fn:Func} {s:ChangeSpec} {fresh handsOn again:Bool} {tb:Nat} {l:List Nat} {gh:Heap} (hvars:s.vars=[]) (hl:BI P l=true) (hpl:∀t∈fn.params.toList,t∈l)
 (hlaid:laidOutB P=true) (hread:∀t∈fn.params.toList,P.readableRec t=true∧t<P.types.size) (hres:fn.resultTypes=#[tb]) (hb:P.underlying tb=some .bool)
 (hspec:∀ds:List (DataW H),ds.length=fn.params.toList.length→(s.fn H ds).results=[.lit (.bool true)]∧(s.fn H ds).args=ds∧(s.fn H ds).vars=[])
 (W:World) (base:Nat) (args:Array Value) (ds gs:List (DataW H)) (before:List MemPlace)
 (hval:∀(j:Nat) t v,fn.params[j]?=some t→args[j]?=some v→Value.okWide P W .any base t v)
 (hW:DataW.Whole enc P fn.params.toList s.vars false W args.toList ds gs before) (hwt:∀x∈DataW.weightsEach P fn.params.toList ds,x≤reachBytes)
 (hgb:fX (rR W) W gh)
 (hpure:∀xss:List (List PV),Np P fn.params.toList xss→DA xss≤cT ds→av P F (mB P fn.params.toList xss) gh (.p (.b true)) gh):
 Calls P F args W fun e W'=>∃v,e=.returned v∧s.post enc P fn false fresh handsOn again W args v W':=by
 have hW':=hW;obtain⟨p,q,hA,hV,hps,hfz,hnd⟩:=hW;rw[hvars]at hV
 have hgs:gs=[]∧q=[]:=by
  cases gs with
  |nil=>exact⟨rfl,hV⟩
  |cons x r=>simp[DataW.TrodVars]at hV
 obtain⟨rfl,rfl⟩:=hgs;simp only[List.append_nil]at hps;subst hps;obtain⟨xss,k1,k2,k3,k4⟩:=Cg hl fn.params.toList args.toList ds before hpl hA (fun j t v a b=>hval j t v (by simpa using a) (by simpa using b)) hwt
 have hdl:ds.length=fn.params.toList.length:=by
  clear hval hW' hwt hpure k1 k2 k3 k4 hfz hnd hspec hpl hread;generalize fn.params.toList=ts at hA;generalize args.toList=vs at hA
  induction ts generalizing vs ds before with
  |nil=>
   cases vs<;>cases ds<;>simp[DataW.TrodAll]at hA ⊢
  |cons t ts ih=>
   cases vs with
   |nil=>simp[DataW.TrodAll]at hA
   |cons v vs=>
    cases ds with
    |nil=>simp[DataW.TrodAll]at hA
    |cons d ds=>
     obtain⟨p,q,_,h2,_⟩:=hA;simp[ih ds q vs h2]
 obtain⟨s1,s2,s3⟩:=hspec ds hdl;have hcall:=(hpure xss k1 k4).2 (rR W) W args.toList hgb (fun _ _ h=>by cases h) k2 (fun j v x h1 h2=>(k3 j v x h1 h2).keep (fun _ _ _ h=>h) (fun _ h=>h.elim) (fun _ _ _ h=>h.elim) (fun _ _ h=>by cases h));simp only[Array.toArray_toList]at hcall;refine hcall.mono ?_;rintro e W' ⟨v,g',rfl,hv,_,_,hE⟩;have hg:=hE.grown (fun _=>rfl);cases hv.bool;refine⟨_,rfl,zj (pa:=before) (pv:=[]) hW' (fun bb sp hd=>?_) (fun sp hsp=>?_) (fun sp _=>?_) (by simp) (World.keptBut_mono (fun _ f=>f.elim) hg.1) hg.2 (ok_one hres rfl (okWide_bool_mk hb true))⟩
 ·rw[List.append_nil,s1,hres]
  exact trodAll_cons_mk (shut_bool hb true) trodAll_mk0
 ·rw[List.append_nil,s2]
  refine qO hlaid _ _ _ _ hread hA (fun x hx=>?_) hsp;have hlt:=hW'.lt x hx
  cases x with
  |cell b off=>
   have:W'.heap[b]?=W.heap[b]?:=(hE.kept b hlt rfl).1;simp only[World.sameAt,World.cell?,this]
  |map b=>exact(hE.kept b hlt rfl).1
 ·rw[List.append_nil,s3,hvars];rfl
theorem Hy {H:Type} {enc:TypeId×Value→H} {P:Program} {F:Nat} {fn:Func} {s:ChangeSpec} {fresh handsOn again:Bool} {tb:Nat} {gh:Heap} (B:Nat) (ps:List Nat) (hvars:s.vars=[]) (hp:fn.params.toList=ps) (hck:Ml P ps=true)
 (hres:fn.resultTypes=#[tb]) (hb:P.underlying tb=some .bool)
 (hspec:∀ds:List (DataW H),ds.length=ps.length→(s.fn H ds).results=[.lit (.bool true)]∧(s.fn H ds).args=ds∧(s.fn H ds).vars=[])
 (W:World) (base:Nat) (args:Array Value) (ds gs:List (DataW H)) (before:List MemPlace)
 (hval:∀(j:Nat) t v,fn.params[j]?=some t→args[j]?=some v→Value.okWide P W .any base t v)
 (hW:DataW.Whole enc P fn.params.toList s.vars false W args.toList ds gs before) {vs:List Nat} (hsz:(DataW.weightsEach P (fn.params.toList++vs) (ds++gs)).all (·≤reachBytes)=true) (hvs:vs=[]) (hB:cT (ds++gs)≤B)
 (hgb:fX (rR W) W gh)
 (hpure:∀xss:List (List PV),Np P ps xss→DA xss≤B→av P F (mB P ps xss) gh (.p (.b true)) gh):
 Calls P F args W fun e W'=>∃v,e=.returned v∧s.post enc P fn false fresh handsOn again W args v W':=by
 simp only[Ml,Bool.and_eq_true,List.all_eq_true,List.contains_iff_mem]at hck;obtain⟨⟨h1,h2⟩,h3⟩:=hck
 have hg:gs=[]:=by
  obtain⟨p,q,_,hV,_⟩:=hW;rw[hvars]at hV
  cases gs with
  |nil=>rfl
  |cons x r=>simp[DataW.TrodVars]at hV
 subst hg;subst hvs;simp only[List.append_nil]at hsz hB;refine zm (l:=nB P 1000 ps []) hvars h1 (by rw[hp];exact fun t ht=>(h2 t ht).1.1) h3 (by rw[hp];exact fun t ht=>⟨(h2 t ht).1.2,by have:=(h2 t ht).2;rwa [Nat.blt_eq]at this⟩) hres hb (by rw[hp];exact hspec) W base args ds [] before hval hW ?_ hgb (by rw[hp];exact fun xss h h'=>hpure xss h (by omega));intro x hx;exact of_decide_eq_true (List.all_eq_true.1 hsz x hx)
theorem HT {g:Gh} {w w':World} (hs:w.heap.size≤w'.heap.size) (hos:w'.os=w.os) (hout:w'.output=w.output) (hblk:∀b,b<w.heap.size→w'.heap[b]?=w.heap[b]?):Ext g w g w':=by
 refine⟨hs,hos,hout,fun b o v hv=>?_,fun b hb ho=>⟨hblk b hb,rfl,ho⟩,rq.of rfl rfl,fun a ha=>?_,fun _ _=>rfl,fun b cs E hb=>⟨cs,E,?_,rfl⟩⟩
 ·simp only[cH]at hv ⊢
  split at hv
  ·rename_i hp
   rw[if_pos hp]
   have hlt:b<w.heap.size:=by
    unfold World.cell? at hv;split at hv
    ·rename_i hb
     exact(Array.getElem?_eq_some_iff.1 hb).1
    ·cases hv
   unfold World.cell? at hv ⊢;rw[hblk b hlt];exact hv
  ·cases hv
 ·unfold World.frozen?
  rw[hblk _ ha]
 ·rw[hblk b (Array.getElem?_eq_some_iff.1 hb).1];exact hb
end Go.AM
end
section
namespace Go.Proofs
open Go.Shelf
def Tryz.uY:Go.Shelf.Ren:=⟨fun|174=>93|247=>128|245=>129|287=>152|279=>153|280=>154|281=>155|282=>156|321=>177|322=>178|316=>179|171=>181|205=>180|243=>191|246=>194|283=>197|284=>198|285=>199|286=>200|129=>203|317=>202|318=>204|319=>205|320=>206|337=>207|338=>208|n=>n,fun|9=>9|3=>3|2=>2|75=>224|85=>225|4=>4|167=>270|5=>5|53=>271|175=>272|46=>266|168=>274|37=>248|0=>0|210=>293|21=>21|127=>300|145=>303|143=>301|171=>309|173=>312|212=>318|51=>286|20=>20|213=>319|232=>322|233=>323|80=>186|n=>n,fun|15=>1|16=>2|17=>5|18=>6|19=>7|n=>n⟩
theorem Tryz.Gi:Go.Proofs.LaysC.n174 Tryz.prog Tryz.uY:={
 mixed:=by kernel_rfl
 f129:=Tryz.func203.trans (congrArg some (by kernel_rfl))
 f171:=Tryz.func181.trans (congrArg some (by kernel_rfl))
 f174:=Tryz.func93.trans (congrArg some (by kernel_rfl))
 f205:=Tryz.func180.trans (congrArg some (by kernel_rfl))
 f243:=Tryz.func191.trans (congrArg some (by kernel_rfl))
 f245:=Tryz.func129.trans (congrArg some (by kernel_rfl))
 f246:=Tryz.func194.trans (congrArg some (by kernel_rfl))
 f247:=Tryz.func128.trans (congrArg some (by kernel_rfl))
 f279:=Tryz.func153.trans (congrArg some (by kernel_rfl))
 f280:=Tryz.func154.trans (congrArg some (by kernel_rfl))
 f281:=Tryz.func155.trans (congrArg some (by kernel_rfl))
 f282:=Tryz.func156.trans (congrArg some (by kernel_rfl))
 f283:=Tryz.func197.trans (congrArg some (by kernel_rfl))
 f284:=Tryz.func198.trans (congrArg some (by kernel_rfl))
 f285:=Tryz.func199.trans (congrArg some (by kernel_rfl))
 f286:=Tryz.func200.trans (congrArg some (by kernel_rfl))
 f287:=Tryz.func152.trans (congrArg some (by kernel_rfl))
 f316:=Tryz.func179.trans (congrArg some (by kernel_rfl))
 f317:=Tryz.func202.trans (congrArg some (by kernel_rfl))
 f318:=Tryz.func204.trans (congrArg some (by kernel_rfl))
 f319:=Tryz.func205.trans (congrArg some (by kernel_rfl))
 f320:=Tryz.func206.trans (congrArg some (by kernel_rfl))
 f321:=Tryz.func177.trans (congrArg some (by kernel_rfl))
 f322:=Tryz.func178.trans (congrArg some (by kernel_rfl))
 f337:=Tryz.func207.trans (congrArg some (by kernel_rfl))
 f338:=Tryz.func208.trans (congrArg some (by kernel_rfl))
 t0:=Tryz.underlying0
 a0:=Tryz.isAgg0
 z0:=Tryz.sizeOf0
 v0:=Tryz.zeroValue0
 t2:=Tryz.underlying2
 a2:=Tryz.isAgg2
 z2:=Tryz.sizeOf2
 v2:=Tryz.zeroValue2
 t3:=Tryz.underlying3
 a3:=Tryz.isAgg3
 z3:=Tryz.sizeOf3
 v3:=Tryz.zeroValue3
 t4:=Tryz.underlying4
 a4:=Tryz.isAgg4
 z4:=Tryz.sizeOf4
 v4:=Tryz.zeroValue4
 t5:=Tryz.underlying5
 a5:=Tryz.isAgg5
 z5:=Tryz.sizeOf5
 v5:=Tryz.zeroValue5
 t9:=Tryz.underlying9
 a9:=Tryz.isAgg9
 z9:=Tryz.sizeOf9
 v9:=Tryz.zeroValue9
 t20:=Tryz.underlying20
 a20:=Tryz.isAgg20
 z20:=Tryz.sizeOf20
 v20:=Tryz.zeroValue20
 t21:=Tryz.underlying21
 a21:=Tryz.isAgg21
 z21:=Tryz.sizeOf21
 v21:=Tryz.zeroValue21
 t37:=Tryz.underlying248
 a37:=Tryz.isAgg248
 z37:=Tryz.sizeOf248
 v37:=Tryz.zeroValue248
 t46:=Tryz.underlying266
 a46:=Tryz.isAgg266
 z46:=Tryz.sizeOf266
 v46:=Tryz.zeroValue266
 t51:=Tryz.underlying286
 a51:=Tryz.isAgg286
 z51:=Tryz.sizeOf286
 v51:=Tryz.zeroValue286
 t53:=Tryz.underlying271
 a53:=Tryz.isAgg271
 z53:=Tryz.sizeOf271
 v53:=Tryz.zeroValue271
 t75:=Tryz.underlying224
 a75:=Tryz.isAgg224
 z75:=Tryz.sizeOf224
 v75:=Tryz.zeroValue224
 t85:=Tryz.underlying225
 a85:=Tryz.isAgg225
 z85:=Tryz.sizeOf225
 v85:=Tryz.zeroValue225
 t127:=Tryz.underlying300
 a127:=Tryz.isAgg300
 z127:=Tryz.sizeOf300
 v127:=Tryz.zeroValue300
 t143:=Tryz.underlying301
 a143:=Tryz.isAgg301
 z143:=Tryz.sizeOf301
 v143:=Tryz.zeroValue301
 t145:=Tryz.underlying303
 a145:=Tryz.isAgg303
 z145:=Tryz.sizeOf303
 v145:=Tryz.zeroValue303
 t167:=Tryz.underlying270
 a167:=Tryz.isAgg270
 z167:=Tryz.sizeOf270
 v167:=Tryz.zeroValue270
 t168:=Tryz.underlying274
 a168:=Tryz.isAgg274
 z168:=Tryz.sizeOf274
 v168:=Tryz.zeroValue274
 t171:=Tryz.underlying309
 a171:=Tryz.isAgg309
 z171:=Tryz.sizeOf309
 v171:=Tryz.zeroValue309
 t173:=Tryz.underlying312
 a173:=Tryz.isAgg312
 z173:=Tryz.sizeOf312
 v173:=Tryz.zeroValue312
 t175:=Tryz.underlying272
 a175:=Tryz.isAgg272
 z175:=Tryz.sizeOf272
 v175:=Tryz.zeroValue272
 t210:=Tryz.underlying293
 a210:=Tryz.isAgg293
 z210:=Tryz.sizeOf293
 v210:=Tryz.zeroValue293
 t212:=Tryz.underlying318
 a212:=Tryz.isAgg318
 z212:=Tryz.sizeOf318
 v212:=Tryz.zeroValue318
 t213:=Tryz.underlying319
 a213:=Tryz.isAgg319
 z213:=Tryz.sizeOf319
 t232:=Tryz.underlying322
 a232:=Tryz.isAgg322
 z232:=Tryz.sizeOf322
 v232:=Tryz.zeroValue322
 t233:=Tryz.underlying323
 a233:=Tryz.isAgg323
 z233:=Tryz.sizeOf323
 v233:=Tryz.zeroValue323
 g15:=by kernel_rfl
 g16:=by kernel_rfl
 g17:=by kernel_rfl
 g18:=by kernel_rfl
 g19:=by kernel_rfl
 t80:=Tryz.underlying186
 a80:=Tryz.isAgg186
 z80:=Tryz.sizeOf186
 v80:=Tryz.zeroValue186
 i0:=by kernel_rfl
 i2:=by kernel_rfl
 i3:=by kernel_rfl
 i4:=by kernel_rfl
 i5:=by kernel_rfl
 i9:=by kernel_rfl
 i20:=by kernel_rfl
 i21:=by kernel_rfl
 i37:=by kernel_rfl
 i46:=by kernel_rfl
 i51:=by kernel_rfl
 i53:=by kernel_rfl
 i75:=by kernel_rfl
 i80:=by kernel_rfl
 i85:=by kernel_rfl
 i127:=by kernel_rfl
 i143:=by kernel_rfl
 i145:=by kernel_rfl
 i167:=by kernel_rfl
 i168:=by kernel_rfl
 i171:=by kernel_rfl
 i173:=by kernel_rfl
 i175:=by kernel_rfl
 i210:=by kernel_rfl
 i212:=by kernel_rfl
 i232:=by kernel_rfl
 i233:=by kernel_rfl
 m15:=by kernel_rfl
 m16:=by kernel_rfl
 m17:=by kernel_rfl
 m18:=by kernel_rfl
 m19:=by kernel_rfl
 c0:=by kernel_rfl
 c2:=by kernel_rfl
 c3:=by kernel_rfl
 c4:=by kernel_rfl
 c5:=by kernel_rfl
 c9:=by kernel_rfl
 c20:=by kernel_rfl
 c21:=by kernel_rfl
 c37:=by kernel_rfl
 c46:=by kernel_rfl
 c51:=by kernel_rfl
 c53:=by kernel_rfl
 c75:=by kernel_rfl
 c80:=by kernel_rfl
 c85:=by kernel_rfl
 c127:=by kernel_rfl
 c143:=by kernel_rfl
 c145:=by kernel_rfl
 c167:=by kernel_rfl
 c168:=by kernel_rfl
 c171:=by kernel_rfl
 c173:=by kernel_rfl
 c175:=by kernel_rfl
 c210:=by kernel_rfl
 c212:=by kernel_rfl
 c213:=by kernel_rfl
 c232:=by kernel_rfl
 c233:=by kernel_rfl }
end Go.Proofs
open Go Go.AM Go.Proofs TK TR
set_option maxRecDepth 100000
namespace PA
theorem vM (w:World) (e:TypeId) (t:ByteArray):w.heap.size≤(Lib.bytesWorld w e t).heap.size∧(Lib.bytesWorld w e t).os=w.os∧(Lib.bytesWorld w e t).output=w.output∧∀b,b<w.heap.size→(Lib.bytesWorld w e t).heap[b]?=w.heap[b]?:=by
 refine⟨by rw[Lib.bytesWorld_size];omega,?_,?_,fun b hb=>Lib.bytesWorld_at_old w e t b hb⟩
 ·unfold Lib.bytesWorld;generalize Lib.bytesCells w e t=cs;unfold World.freeze;repeat' split<;>rfl
 ·unfold Lib.bytesWorld;generalize Lib.bytesCells w e t=cs;unfold World.freeze;repeat' split<;>rfl
theorem JY (ev:Value) (hev:ev=.nilIface∨∃te pe,ev=.iface te pe):Qd 2 [ev]:=by
 intro s hs hne;have hbody:lO Tryz.prog 93:=TK.BB Tryz.func93 rfl (by rfl);refine⟨⟨hbody,rfl⟩,fun g w us hh hbn hlen hrel=>?_⟩
 match us,hlen with
 | [u1,u2,u3],_=>
 have r1:=(hrel 0 u1 _ rfl rfl).pv;have r2:=(hrel 1 u2 _ rfl rfl).pv;have r3:=(hrel 2 u3 _ rfl rfl).pv
 cases r1;cases r2;cases r3
 have hob:=hh.obj 1000000000 (.bH 2 [ev]) (aO ..)
 cases hob with
 |bH _ _ hgl=>
 obtain⟨hown,E,fr,hblk⟩:=hgl
 have fin:∀(w':World) (v:Value) (b:Bool),vj b v→w.heap.size≤w'.heap.size→w'.os=w.os→w'.output=w.output→(∀b,b<w.heap.size→w'.heap[b]?=w.heap[b]?)→∀n:Int,
  ∃v0 g',Ending.returned (.tuple #[.int .i64 n,v])=Ending.returned v0∧aG g' w' (aE [(1000000000,bq.bH 2 [ev])]) (some .ret) v0 (.cz [.p (.i .i64 n),.vD b])∧fX g' w' [(1000000000,bq.bH 2 [ev])]∧(∀b ow,g'.own b=some ow→b<w'.heap.size)∧Ext g w g' w':=by
  intro w' v b hv h1 h2 h3 h4 n;refine⟨_,g,rfl,?_,Ab hown ⟨E,fr,?_⟩,fun b ow ho=>Nat.lt_of_lt_of_le (hbn b ow ho) h1,HT h1 h2 h3 h4⟩
  ·refine .cz _ [.int .i64 n,v] _ rfl ?_
   intro j x c hj hc
   match j with
   |0=>cases hj;cases hc;exact .p _ _ _ (.i _ _)
   |1=>cases hj;cases hc;exact .vD _ _ _ hv
   |j+2=>simp at hj
  ·rw[h4 2 (Array.getElem?_eq_some_iff.1 hblk).1];exact hblk
 unfold Jj;rcases hp:Lib.parseIntB 64 s.data.toList with v|_|_
 ·refine(Any.strconv_ParseInt_10_at64_ok Tryz.Gi s (by omega) v hp w).mono ?_
  rintro e w' ⟨rfl,hw⟩;rcases hw with rfl|⟨t,rfl⟩
  ·exact fin w' .nilIface false rfl (Nat.le_refl _) rfl rfl (fun _ _=>rfl) v
  ·obtain⟨k1,k2,k3,k4⟩:=vM w (Tryz.uY.t 5) t
   exact fin _ .nilIface false rfl k1 k2 k3 k4 v
 ·rw[hp]at hne;cases hne
 ·refine(Any.strconv_ParseInt_10_at64_range Tryz.Gi s (by omega) hp ev w ?_ hev).mono ?_
  ·show w.cell? ⟨2,0,none⟩=some ev
   simp[World.cell?,hblk]
  ·rintro e w' ⟨N,rfl,_,_,hB⟩
   exact fin w' _ true ⟨_,_,rfl⟩ hB.size hB.os hB.output hB.block _
end PA
end
section
open Go Go.AM Go.Proofs TK TR
set_option maxRecDepth 100000
namespace PA
def NF:List AV:=[.p (.s ⟨#[]⟩),.p (.i .i64 0),.cq,.cq,.cq,.cq,.cq,.cq]
theorem fX.MC {g:Gh} {w:World} {h:Heap} (hH:fX g w h) (hbn:∀b ow,g.own b=some ow→b<w.heap.size) (ob:Obj) (hglob:∀l b vs,aF h l=some (.bH b vs)→True):fX (g.new w.heap.size 0 none) (World.push w ob) h:=by
 have hp:∀b,b<w.heap.size→(g.new w.heap.size 0 none).pre b=g.pre b∧(g.new w.heap.size 0 none).own b=g.own b:=fun b hb=>by simp[Gh.new,Nat.ne_of_lt hb]
 have hd:∀l,aE h l→aE h l∧(g.new w.heap.size 0 none).ρ l=g.ρ l:=fun l hl=>⟨hl,rfl⟩
 refine⟨fun l o ho=>?_,fun l o ho hq=>?_,fun l o ho hq=>?_⟩
 ·have hdl:aE h l:=by simp[aE,ho]
  exact(hH.obj l o ho).push hp hd hbn hdl
 ·have this:=hH.own l o ho hq
  show(g.new w.heap.size 0 none).own (g.ρ l)=_;rw[(hp _ (hbn _ _ this)).2];exact this
 ·have this:=hH.own l o ho hq
  show(g.new w.heap.size 0 none).pre (g.ρ l)=_;rw[(hp _ (hbn _ _ this)).1];exact hH.pre l o ho hq
theorem Ep (g:Gh) (w:World) (h:Heap) (p q r:Addr) (hH:fX g w h) (hbn:∀b ow,g.own b=some ow→b<w.heap.size):
 CallsD Tryz.prog 42 #[.pointer (some p),.pointer (some q),.pointer (some r)] .returning w fun e u' w'=>e=.returned (.tuple #[])∧u'=.returning∧∃g',fX g' w' h∧(∀l,g'.ρ l=g.ρ l)∧Ext g w g' w':=by
 refine(Ew p q r w).mono ?_;rintro e u' w' ⟨rfl,rfl,rfl⟩
 have hw:(w.alloc (.cells #[.int .i64 0] 148)).setCell ⟨w.heap.size,0,none⟩ (.int .i64 0)=World.push w (.cells #[.int .i64 0] 148 (0,0)):=by
  unfold World.setCell World.alloc World.push
  congr 1
  apply Array.ext_getElem?
  intro i;rw[Array.getElem?_modify]
  by_cases hi:w.heap.size=i
  ·subst hi;simp
  ·rw[if_neg hi]
 rw[hw];exact⟨rfl,rfl,g.new w.heap.size 0 none,fX.MC hH hbn _ (fun _ _ _ _=>trivial),fun _=>rfl,Ext.push (fun b hb=>by simp[Gh.new,Nat.ne_of_lt hb]) (fun a=>fT a) (fun _ _=>rfl)⟩
end PA
end
section
open Go Go.AM Go.Proofs
set_option maxRecDepth 100000
namespace TK
theorem Ms (l:Bs):((B l).toList==ByteArray.toList ⟨#[]⟩)=(l==[]):=tD l []
theorem Iy (l:Bs) (W:List Bs) (b:Bool) (h1:aU Tryz.prog 123 [] (.p (.sl 1 (W.map bD)))) (h2:aU Tryz.prog 122 [.p (.sl 1 (W.map bD)),.p (.s (B l))] (.p (.b b))):
 aU Tryz.prog 84 [.p (.s (B l))] (.p (.b (!(l==[])&&b))):=by
 refine aU.intro (ah Tryz.prog) az Tryz.func84 rfl (by rfl) (by kernel_rfl) (by show 1≤_;decide) rfl ?_;(conv=>whnf);refine aj ?_ ?_<;>intro h<;>conv=>whnf
 ·rw[Ms]at h
  refine iX h1 ?_;(conv=>whnf);refine iX h2 ?_;(conv=>whnf);exact .inl (pb (by rw[h];rfl))
 ·rw[Ms]at h
  exact .inl (pb (by rw[h];rfl))
theorem HV (l:Bs):aU Tryz.prog 84 [.p (.s (B l))] (.p (.b (Mf l))):=
 Iy l rz _ xP (Eo rz l (by rw[rz,Al];exact Nat.lt_of_le_of_lt (Nat.succ_le_succ (AN _ _)) (by decide)))
end TK
end
section
open Go Go.AM Go.Proofs
set_option maxRecDepth 100000
end
section
open Go Go.AM Go.Proofs
set_option maxRecDepth 100000
end
section
open Go Go.AM Go.Proofs
set_option maxRecDepth 100000
end
section
open Go Go.AM Go.Proofs
set_option maxRecDepth 100000
end
section
open Go Go.AM Go.Proofs
set_option maxRecDepth 100000
end
section
open Go Go.AM Go.Proofs
set_option maxRecDepth 100000
end
section
open Go Go.AM Go.Proofs
set_option maxRecDepth 100000
end
section
open Go Go.AM Go.Proofs
set_option maxRecDepth 100000
end
section
open Go Go.AM Go.Proofs
set_option maxRecDepth 100000
end
section
open Go Go.AM Go.Proofs
set_option maxRecDepth 100000
end
section
open Go Go.AM Go.Proofs
set_option maxRecDepth 100000
namespace TR
def vR (p:ql):List AV:=[.p (.s p.name),.p (.i .i64 p.ver),.p (.sl 3 (p.uses.map kf)),.p (.sl 3 (p.datas.map j7)),.p (.sl 2 (p.traits.map j9)),.p (.sl 3 (p.impls.map gZ)),.p (.sl 15 (p.funcs.map cU)),.p (.sl 14 (p.actors.map gN))]
end TR
end
section
open Go Go.AM Go.Proofs TK TR
set_option maxRecDepth 100000
end
section
open Go Go.AM Go.Proofs TK TR
set_option maxRecDepth 100000
end
