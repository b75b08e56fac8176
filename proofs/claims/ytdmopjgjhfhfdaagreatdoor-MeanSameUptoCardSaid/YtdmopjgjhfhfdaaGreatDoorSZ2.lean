/- Contracts, and the law, for every input. No conditions. -/
import Derived.Test.YtdmopjgjhfhfdaaGreatDoorRLF
import Derived.Test.YtdmopjgjhfhfdaaGreatDoorTR4
import Derived.Test.YtdmopjgjhfhfdaaGreatDoorTR7
set_option linter.all false
section
open Go Go.AM Go.Proofs TK
set_option maxRecDepth 100000
namespace MN
def aN (z:Ns) (j:Nat):Prop:=j<z.n.1
def aA (z:Ns) (j:Nat):Prop:=j<z.a.1∧nf z j
def aB (z:Ns) (j:Nat):Prop:=j<z.b.1
abbrev PF:=List ByteArray×TR.Ex×Nat
def AL (F:List TR.Ex) (z:Ns) (e:TR.Ex) (o k:Nat):Prop:=Ae F z (aN z) (aA z) (aB z) e o k
def Ed (F:List TR.Ex) (z:Ns) (l:List TR.Ex) (o:Nat) (s:List Nat):Prop:=ke F z (aN z) (aA z) (aB z) l o s
def Cm (F:List TR.Ex) (z:Ns) (fs:TM PF) (es:TM Fn):Prop:=F2 (fun p e=>e.1=p.1∧e.2.names=p.2.1∧AL F z p.2.2.1 p.2.2.2 e.2.body) fs es
def DY (f:List ByteArray×TR.Ex):Prop:=f.1.length≤2000000∧TR.wE f.2≤1048576
abbrev QF:=ByteArray×List ByteArray×TR.Ex
def KV:List QF→Nat→TM PF→TM PF
 | [],_,es=>es
 |f::l,o,es=>KV l (o+(mT f.2.2).length) (firstT es f.1 (f.2.1,f.2.2,o))
def iF (l:List QF):List TR.Ex:=l.flatMap fun f=>mT f.2.2
def lF (f:TR.zB):QF:=(f.name,f.ns,f.body)
def lA (f:TR.JM):QF:=(f.name,f.ns,f.body)
section
variable {F:List TR.Ex} {z z':Ns}
theorem AL.W (w:W no no no z z') {e:TR.Ex} {o k:Nat} (h:AL F z e o k):AL F z' e o k:=
 Ae.mono (fun j h=>w.tn j h fun x=>x) (fun j h=>(w.ta j h.1 (fun x=>x) h.2).1) (fun j h=>w.tb j h fun x=>x) (fun _ h=>Nat.lt_of_lt_of_le h w.n) (fun j h=>⟨Nat.lt_of_lt_of_le h.1 w.a,(w.ta j h.1 (fun x=>x) h.2).2⟩) (fun _ h=>Nat.lt_of_lt_of_le h w.b) h
theorem Ed.W (w:W no no no z z') {e:List TR.Ex} {o:Nat} {k:List Nat} (h:Ed F z e o k):Ed F z' e o k:=
 ke.mono (fun j h=>w.tn j h fun x=>x) (fun j h=>(w.ta j h.1 (fun x=>x) h.2).1) (fun j h=>w.tb j h fun x=>x) (fun _ h=>Nat.lt_of_lt_of_le h w.n) (fun j h=>⟨Nat.lt_of_lt_of_le h.1 w.a,(w.ta j h.1 (fun x=>x) h.2).2⟩) (fun _ h=>Nat.lt_of_lt_of_le h w.b) h
theorem Cm.W (w:W no no no z z') {fs:TM PF} {es:TM Fn} (h:Cm F z fs es):Cm F z' fs es:=F2.mono (fun _ _ h=>⟨h.1,h.2.1,h.2.2.W w⟩) h
theorem Cm.find:∀{fs:TM PF} {es:TM Fn} (_:Cm F z fs es) (k:ByteArray),O2 (fun p f=>f.names=p.1∧AL F z p.2.1 p.2.2 f.body) (bh k fs) (bh k es)
 | [],[],_,_=>trivial
 |(a,p)::fs,(b,f)::es,h,k=>by
  obtain⟨⟨h1,h2,h3⟩,h⟩:=h;dsimp only at h1;subst h1;rw[bh,bh]
  cases k==b with
  |true=>exact⟨h2,h3⟩
  |false=>exact Cm.find h k
theorem Cm.first {fs:TM PF} {es:TM Fn} (h:Cm F z fs es) (k:ByteArray) {p:PF} {f:Fn} (h1:f.names=p.1) (h2:AL F z p.2.1 p.2.2 f.body):Cm F z (firstT fs k p) (firstT es k f):=by
 have:=h.find k;unfold firstT
 cases e1:bh k fs with
 |none=>
  cases e2:bh k es with
  |none=>exact F2.app h ⟨⟨rfl,h1,h2⟩,trivial⟩
  |some _=>rw[e1,e2]at this;cases this
 |some _=>
  cases e2:bh k es with
  |none=>rw[e1,e2]at this;cases this
  |some _=>exact h
def PZ (F:List TR.Ex) (G:Ns→TM Fn→Option (Ns×TM Fn)) (l:List QF):Prop:=∀(z:Ns) (pes:TM PF) (es:TM Fn) (L M:List TR.Ex) (cs:List Nat),D0 z→Fu z cs→F=L++iF l++M→cs.length=L.length→Cm F z pes es→
 ∃z' es' ds,G z es=some (z',es')∧D0 z'∧W no no no z z'∧Cm F z' (KV l L.length pes) es'∧Fu z' (cs++ds)∧Ed F z' (iF l) L.length ds
theorem Jc (hFl:F.length≤2000000) {f:List ByteArray×TR.Ex} (hf:DY f) {L M:List TR.Ex} {cs:List Nat} (ok:D0 z) (hu:Fu z cs) (hF:F=L++mT f.2++M) (hc:cs.length=L.length):
 ∃z' ds,iG (TR.wE f.2) f.2 z=some (z',z.n.1)∧D0 z'∧W no no no z z'∧AL F z' f.2 L.length z.n.1∧Fu z' (cs++ds)∧Ed F z' (mT f.2) L.length ds:=by
 obtain⟨z',ds,h1,_,h3,h4,h5,h6,h7⟩:=xu F hFl _ f.2 (Nat.le_refl _) hf.2 z L M cs ok hu hF hc;have id3:∀{α:Type} {M:List (Nat×α)} (C:Nat→Prop) (j:Nat),C j→aJ j M=aJ j M:=fun _ _ _=>rfl;exact⟨z',ds,h1,h3,h4,h5.mono (id3 _) (id3 _) (id3 _) (fun j h=>h.2) (fun j h=>⟨h.2.1,h.2.2⟩) fun j h=>h.2,h6,h7.mono (id3 _) (id3 _) (id3 _) (fun j h=>h.2) (fun j h=>⟨h.2.1,h.2.2⟩) fun j h=>h.2⟩
theorem zb (hFl:F.length≤2000000):∀(l:List TR.zB),(∀f∈l,DY (lF f).2)→PZ F (fun z es=>mH l z es) (l.map lF)
 | [],_=>fun z pes es L M cs ok hu hF hc ht=>⟨z,es,[],rfl,ok,W.refl,ht,by rw[List.append_nil];exact hu,trivial⟩
 |f::l,hs=>fun z pes es L M cs ok hu hF hc ht=>by
  have hf:=hs f List.mem_cons_self;obtain⟨z2,d1,e1,e2,e3,e4,e5,e6⟩:=Jc (f:=(f.ns,f.body)) (M:=iF (l.map lF)++M) hFl hf ok hu (by rw[hF,iF,List.map_cons,List.flatMap_cons];simp[iF,lF]) hc;obtain⟨z3,es3,d2,g1,g2,g3,g4,g5,g6⟩:=zb hFl l (fun x hx=>hs x (List.mem_cons_of_mem _ hx)) z2 (firstT pes f.name (f.ns,f.body,L.length)) (firstT es f.name ⟨f.ns,z.n.1⟩) (L++mT f.body) M (cs++d1) e2 e5 (by rw[hF,iF,List.map_cons,List.flatMap_cons];simp[iF,lF]) (by have:=e6.len;rw[List.length_append,List.length_append,this,hc]) ((ht.W e3).first f.name rfl e4);dsimp only;rw[mH];unfold Hf;rw[Nat.ble_eq_true_of_le (show f.ns.length≤2000000 from hf.1)];dsimp only[lF]at e1 ⊢;rw[e1];dsimp only at g1 ⊢;rw[List.length_append]at g4 g6;exact⟨z3,es3,d1++d2,g1,g2,e3.trans g3 (fun _ _ x=>x) (fun _ _ x=>x) (fun _ _ x=>x),g4,by rw[←List.append_assoc];exact g5,by unfold Ed iF;rw[List.map_cons,List.flatMap_cons];exact ke.app (Ed.W g3 e6) g6⟩
theorem xA (hFl:F.length≤2000000):∀(l:List TR.JM),(∀f∈l,DY (lA f).2)→PZ F (fun z es=>lP l z es) (l.map lA)
 | [],_=>fun z pes es L M cs ok hu hF hc ht=>⟨z,es,[],rfl,ok,W.refl,ht,by rw[List.append_nil];exact hu,trivial⟩
 |f::l,hs=>fun z pes es L M cs ok hu hF hc ht=>by
  have hf:=hs f List.mem_cons_self;obtain⟨z2,d1,e1,e2,e3,e4,e5,e6⟩:=Jc (f:=(f.ns,f.body)) (M:=iF (l.map lA)++M) hFl hf ok hu (by rw[hF,iF,List.map_cons,List.flatMap_cons];simp[iF,lA]) hc;obtain⟨z3,es3,d2,g1,g2,g3,g4,g5,g6⟩:=xA hFl l (fun x hx=>hs x (List.mem_cons_of_mem _ hx)) z2 (firstT pes f.name (f.ns,f.body,L.length)) (firstT es f.name ⟨f.ns,z.n.1⟩) (L++mT f.body) M (cs++d1) e2 e5 (by rw[hF,iF,List.map_cons,List.flatMap_cons];simp[iF,lA]) (by have:=e6.len;rw[List.length_append,List.length_append,this,hc]) ((ht.W e3).first f.name rfl e4);dsimp only;rw[lP];unfold O0;rw[Nat.ble_eq_true_of_le (show f.ns.length≤2000000 from hf.1)];dsimp only[lA]at e1 ⊢;rw[e1];dsimp only at g1 ⊢;rw[List.length_append]at g4 g6;exact⟨z3,es3,d1++d2,g1,g2,e3.trans g3 (fun _ _ x=>x) (fun _ _ x=>x) (fun _ _ x=>x),g4,by rw[←List.append_assoc];exact g5,by unfold Ed iF;rw[List.map_cons,List.flatMap_cons];exact ke.app (Ed.W g3 e6) g6⟩
def IR (F:List TR.Ex) (z:Ns) (m0:Nat) (M:List (Nat×TM Fn)) (p:TR.x7×Nat) (x:Im):Prop:=x.trait=p.1.tr∧x.typ=p.1.fo∧m0≤x.funcs∧∃es,aJ x.funcs M=some es∧Cm F z (KV (p.1.funcs.map lF) p.2 []) es
def zI:List TR.x7→Nat→List (TR.x7×Nat)
 | [],_=>[]
 |x::l,o=>(x,o)::zI l (o+(iF (x.funcs.map lF)).length)
def oz (l:List TR.x7):List TR.Ex:=l.flatMap fun x=>iF (x.funcs.map lF)
theorem IR.mono (w:W no no no z z') {m0:Nat} {M N:List (Nat×TM Fn)} (h:∀j es,m0≤j→aJ j M=some es→aJ j N=some es) {p:TR.x7×Nat} {x:Im} (q:IR F z m0 M p x):IR F z' m0 N p x:=
 ⟨q.1,q.2.1,q.2.2.1,let ⟨es,a,b⟩:=q.2.2.2;⟨es,h _ _ q.2.2.1 a,b.W w⟩⟩
theorem Ao (hFl:F.length≤2000000) (m0:Nat):∀(l:List TR.x7) (z:Ns) (m:bf (TM Fn)) (i:bf (List Im)) (q:Option (Nat×Nat)) (ps:List (TR.x7×Nat)) (xs:List Im) (L M:List TR.Ex) (cs:List Nat),(∀x∈l,∀f∈x.funcs,DY (lF f).2)→D0 z→gf m→gf i→m0≤m.1→Bk i.2 (fun j=>j<i.1) q xs→F2 (IR F z m0 m.2) ps xs→xs.length+l.length≤2000000→Fu z cs→F=L++oz l++M→cs.length=L.length→
 ∃z' m' i' q' xs' ds,pJ l z m i q=some (z',m',i',q')∧D0 z'∧gf m'∧gf i'∧m.1≤m'.1∧(∀j es,aJ j m.2=some es→aJ j m'.2=some es)∧W no no no z z'∧Bk i'.2 (fun j=>j<i'.1) q' xs'∧F2 (IR F z' m0 m'.2) (ps++zI l L.length) xs'∧Fu z' (cs++ds)∧Ed F z' (oz l) L.length ds
 | [],z,m,i,q,ps,xs,L,M,cs,_,ok,bm,bi,_,hq,hx,_,hu,_,_=>⟨z,m,i,q,xs,[],rfl,ok,bm,bi,Nat.le_refl _,fun _ _ h=>h,W.refl,hq,by rw[zI,List.append_nil];exact hx,by rw[List.append_nil];exact hu,trivial⟩
 |x::l,z,m,i,q,ps,xs,L,M,cs,hs,ok,bm,bi,hm,hq,hx,hl,hu,hF,hc=>by
  have hl:xs.length+l.length+1≤2000000:=hl;obtain⟨z2,es,d1,e1,e2,e3,e4,e5,e6⟩:=zb hFl x.funcs (hs x List.mem_cons_self) z [] [] L (oz l++M) cs ok hu (by rw[hF,oz,List.flatMap_cons];simp[oz]) hc trivial;obtain⟨i2,q2,p1,p2,p3,p4,p5,p6⟩:=tO (⟨x.tr,x.fo,m.1⟩:Im) bi hq (by omega)
  have hx2:F2 (IR F z2 m0 ((m.1,es)::m.2)) (ps++[(x,L.length)]) (xs++[⟨x.tr,x.fo,m.1⟩]):=
   F2.app (F2.mono (fun _ _ h=>h.mono e3 fun j es' _ h=>bm.old h) hx) ⟨⟨rfl,rfl,hm,es,aP ..,e4⟩,trivial⟩
  obtain⟨z3,m3,i3,q3,xs3,d2,g1,g2,g3,g4,g5,g6,g7,g8,g9,g10,g11⟩:=Ao hFl m0 l z2 (m.1+1,(m.1,es)::m.2) i2 (some q2) (ps++[(x,L.length)]) (xs++[⟨x.tr,x.fo,m.1⟩]) (L++iF (x.funcs.map lF)) M (cs++d1) (fun y hy=>hs y (List.mem_cons_of_mem _ hy)) e2 (bm.push _) p2 (by dsimp only;omega) ⟨by rw[p4];exact p5,by rw[p4];simp,by rw[p3,p4];exact Nat.lt_succ_self _⟩ hx2 (by simp;omega) e5 (by rw[hF,oz,List.flatMap_cons];simp[oz]) (by have:=e6.len;rw[List.length_append,List.length_append,this,hc]);rw[List.length_append]at g9 g11;rw[pJ];dsimp only at e1 ⊢;rw[e1];dsimp only;rw[p1];exact⟨z3,m3,i3,q3,xs3,d1++d2,g1,g2,g3,g4,by dsimp only at g5;omega,fun j es' h=>g6 j es' (bm.old h),e3.trans g7 (fun _ _ x=>x) (fun _ _ x=>x) (fun _ _ x=>x),g8,by rw[zI,List.append_cons];exact g9,by rw[←List.append_assoc];exact g10,by unfold Ed oz;rw[List.flatMap_cons];exact ke.app (Ed.W g7 e6) g11⟩
end
end MN
end
section
open Go Go.AM Go.Proofs TK
set_option maxRecDepth 100000
namespace MN
structure PS (K:Ks):Prop where
 n:gf K.n
 a:gf K.a
 b:gf K.b
 mf:gf K.mf
 im:gf K.im
def kO (p:TR.ql):List TR.Ex:=oz p.impls++iF (p.funcs.map lF)++iF (p.actors.map lA)
structure NN (p:TR.ql):Prop where
 ok:Hj p=true
 im:∀x∈p.impls,∀f∈x.funcs,DY (lF f).2
 fu:∀f∈p.funcs,DY (lF f).2
 ac:∀f∈p.actors,DY (lA f).2
 fn:(kO p).length≤2000000
structure Kt (p:TR.ql) (K:Ks) (m:Nat):Prop where
 ex:∃z mk cs es ims fs acs,K.n=z.n∧K.a=z.a∧K.b=z.b∧aJ m K.mm.2=some mk∧mk.funs=z.fu∧Fu z cs∧Ed (kO p) z (kO p) 0 cs∧
  aJ mk.makes K.mc.2=some es∧es=mE p.datas []∧aJ mk.traits K.mt.2=some (jy p.traits [])∧
  Bk K.im.2 (fun _=>True) mk.impls ims∧ims.length≤2000000∧F2 (IR (kO p) z 0 K.mf.2) (zI p.impls 0) ims∧
  aJ mk.funcs K.mf.2=some fs∧Cm (kO p) z (KV (p.funcs.map lF) (oz p.impls).length []) fs∧
  aJ mk.actors K.ma.2=some acs∧Cm (kO p) z (KV (p.actors.map lA) ((oz p.impls).length+(iF (p.funcs.map lF)).length) []) acs
theorem JQ {p:TR.ql} (h:NN p) {K:Ks} (ok:PS K):∃K',newF p K=some K'∧PS K'∧Kt p K' K.mm.1:=by
 have hcnt:p.impls.length≤2000000:=by
  have:=h.ok;unfold Hj at this;simp only[Bool.and_eq_true]at this;exact Nat.le_of_ble_eq_true this.2.2.2.2.1
 obtain⟨z1,mf1,im1,q,ims,d1,e1,e2,e3,e4,e5,e6,e7,e8,e9,e10,e11⟩:=Ao h.fn (K.mf.1+1) p.impls ⟨K.n,K.a,K.b,none⟩ (K.mf.1+1,(K.mf.1,[])::K.mf.2) K.im none [] [] [] (iF (p.funcs.map lF)++iF (p.actors.map lA)) [] h.im ⟨ok.n,ok.a,ok.b⟩ (ok.mf.push _) ok.im (Nat.le_refl _) rfl trivial (by simpa using hcnt) rfl (by unfold kO;simp) rfl;have e0:=e6 K.mf.1 [] (aP ..);obtain⟨z2,fs,d2,f1,f2,f3,f4,f5,f6⟩:=zb h.fn p.funcs h.fu z1 [] [] (oz p.impls) (iF (p.actors.map lA)) ([]++d1) e2 e10 (by unfold kO;simp) (by rw[List.nil_append];exact e11.len) trivial;obtain⟨z3,acs,d3,g1,g2,g3,g4,g5,g6⟩:=xA h.fn p.actors h.ac z2 [] [] (oz p.impls++iF (p.funcs.map lF)) [] ([]++d1++d2) f2 f5 (by unfold kO;simp) (by rw[List.nil_append,List.length_append,List.length_append,e11.len,f6.len]) trivial;dsimp only at f1 g1;rw[List.length_append]at g4 g6
 have hN:newF p K=some (kS K z3 (wo K z3.fu q) (mE p.datas []) (mf1.1,aV K.mf.1 fs mf1.2) (jy p.traits []) im1 acs):=by
  unfold newF;rw[h.ok,e1];dsimp only;rw[e0];dsimp only;rw[f1];dsimp only;rw[g1]
 refine⟨_,hN,⟨g2.n,g2.a,g2.b,jH e3 gr,e4⟩,?_⟩;have w13:W no no no z1 z3:=f3.trans g3 (fun _ _ x=>x) (fun _ _ x=>x) (fun _ _ x=>x);refine⟨z3,wo K z3.fu q,[]++d1++d2++d3,_,ims,fs,acs,rfl,rfl,rfl,aP ..,rfl,g5,?_,aP ..,rfl,aP ..,?_,?_,?_,cw e0,f4.W g3,aP ..,g4⟩
 ·rw[List.nil_append]
  exact((Ed.W w13 e11).app (by rw[List.length_nil,Nat.zero_add];exact Ed.W g3 f6)).app (by rw[List.length_nil,Nat.zero_add,List.length_append];exact g6)
 ·exact e8.mono (fun _ _=>rfl) fun _ _=>trivial
 ·have:=e9.len
  rw[List.nil_append]at this;rw[←this]
  have:∀(l:List TR.x7) (o:Nat),(zI l o).length=l.length:=by
   intro l
   induction l with
   |nil=>intro o;rfl
   |cons x l ih=>intro o;rw[zI,List.length_cons,List.length_cons,ih]
  rw[this];exact hcnt
 ·refine F2.mono (fun x y hx=>?_) e9
  obtain⟨a1,a2,a3,es,a4,a5⟩:=hx;refine⟨a1,a2,Nat.zero_le _,es,?_,a5.W w13⟩;exact(gp (by omega)).trans a4
def O3 (F:List TR.Ex) (n:Int) (t:ByteArray) (len:Nat):Prop:=∃e,0≤n∧F[n.toNat]?=some e∧t.size=(TR.mJ e).length∧zd t len (TR.mJ e) 0 0
def Ng (F:List TR.Ex) (z w:Ns) (a b:Nat):Prop:=∃e o,TR.wE e≤1048576∧AL F z e o a∧AL F w e o b
section
variable {F:List TR.Ex} {z w:Ns} {K:Ks}
theorem IX {nd:Nd} {C:Nat→Prop} {cs:List Nat} (h:Bk K.a.2 C nd.args cs) {j:Nat} (hj:j<cs.length):ju K.a nd j=cs[j]?:=by
 unfold ju
 cases hq:nd.args with
 |none=>rw[hq]at h;cases h;simp at hj
 |some q=>
  rw[hq]at h;obtain⟨h1,h2,_⟩:=h;dsimp only;rw[show Nat.blt j q.2=true from Nat.ble_eq_true_of_le (by omega)];dsimp only;rw[h1]
theorem F5 {nd:Nd} {C:Nat→Prop} {ars:List Ar} (h:Bk K.b.2 C nd.dR ars) (hl:ars.length≤2000000):wQ K nd=some ars:=by
 unfold wQ
 cases hq:nd.dR with
 |none=>rw[hq]at h;cases h;rfl
 |some q=>
  rw[hq]at h;obtain⟨h1,h2,_⟩:=h;dsimp only;rw[h1];dsimp only;rw[nY (by omega) (by omega),h2,List.take_length]
theorem jv.two {z w:Ns} {A C D A' C' D':Nat→Prop}:∀{ms:List TR.eR} {o:Nat} {l m:List Ar},jv F z A C D ms o l→jv F w A' C' D' ms o m→(∀x∈ms,TR.wP x.pat≤2000000)→(∀x∈ms,TR.wE x.body≤1048576)→(∀e o a b,TR.wE e≤1048576→Ae F z A C D e o a→Ae F w A' C' D' e o b→Ng F z w a b)→F2 (fun x y=>y.pat=x.pat∧TR.wP x.pat≤2000000∧Ng F z w x.body y.body) l m
 | [],_,[],[],_,_,_,_,_=>trivial
 | [],_,_::_,_,h,_,_,_,_=>by rw[jv]at h;exact h.elim
 | [],_,[],_::_,_,h,_,_,_=>by rw[jv]at h;exact h.elim
 |_::_,_,[],_,h,_,_,_,_=>by rw[jv]at h;exact h.elim
 |_::_,_,_::_,[],_,h,_,_,_=>by rw[jv]at h;exact h.elim
 |.mk p e::r,_,a::l,b::m,h1,h2,hp,he,hk=>by
  rw[jv]at h1 h2;exact⟨⟨h2.1.trans h1.1.symm,by rw[h1.1];exact hp _ List.mem_cons_self,hk e _ _ _ (he _ List.mem_cons_self) h1.2.1 h2.2.1⟩,h1.2.2.two h2.2.2 (fun x hx=>hp x (List.mem_cons_of_mem _ hx)) (fun x hx=>he x (List.mem_cons_of_mem _ hx)) hk⟩
theorem jv.len {z:Ns} {A C D:Nat→Prop}:∀{ms:List TR.eR} {o:Nat} {l:List Ar},jv F z A C D ms o l→l.length=ms.length
 | [],_,[],_=>rfl
 | [],_,_::_,h=>by rw[jv]at h;exact h.elim
 |_::_,_,[],h=>by rw[jv]at h;exact h.elim
 |.mk p e::r,_,a::l,h=>by rw[jv]at h;rw[List.length_cons,List.length_cons,h.2.2.len]
theorem DJ {K1 K2:Ks} {z w:Ns} (n1:K1.n=z.n) (a1:K1.a=z.a) (b1:K1.b=z.b) (n2:K2.n=w.n) (a2:K2.a=w.a) (b2:K2.b=w.b) {e:TR.Ex} {o:Nat} (he:TR.wE e≤1048576) {a b:Nat} (h1:AL F z e o a) (h2:AL F w e o b):
 ∃p q,aJ a K1.n.2=some p∧aJ b K2.n.2=some q∧ND K1 K2 (O3 F) (Ng F z w) p q∧Nx F p e o∧gx p.args=e.args.length:=by
 obtain⟨k0,n0,t0,ns0,ts0,as0,ms0,p0⟩:=e;have hlen:=TR.tP k0 n0 t0 ns0 ts0 as0 ms0 p0;unfold AL at h1 h2;rw[Ae]at h1 h2;obtain⟨p,cs,ars,_,g1,g2,g3,g4,g5,g6⟩:=h1;obtain⟨q,cs',ars',_,j1,j2,j3,j4,j5,j6⟩:=h2;have lc:cs.length=as0.length:=g5.len;have lc':cs'.length=as0.length:=j5.len;have la:gx p.args=as0.length:=g3.len.trans lc;have la':gx q.args=as0.length:=j3.len.trans lc'
 have hfree:q.free=p.free∧q.fn=p.fn∧p.free.length≤2000000:=by
  cases hi:oI (.mk k0 n0 t0 ns0 ts0 as0 ms0 p0) with
  |false=>
   obtain⟨u1,u2⟩:=g2.nf hi;obtain⟨v1,v2⟩:=j2.nf hi;rw[u1,u2,v1,v2];simp
  |true=>
   obtain⟨u1,u2,_⟩:=g2.fn hi;obtain⟨v1,v2,_⟩:=j2.fn hi;have:=TR.J9 (.mk k0 n0 t0 ns0 ts0 as0 ms0 p0);exact⟨by rw[u1,v1],by rw[u2,v2],by rw[u1];omega⟩
 refine⟨p,q,by rw[n1];exact g1,by rw[n2];exact j1,?_,g2,la⟩;refine⟨by rw[g2.kind,j2.kind],by rw[g2.num,j2.num],by rw[g2.text,j2.text],by rw[g2.names,j2.names],hfree.1,hfree.2.1,?_,by rw[g2.needs,j2.needs],by rw[la,la'],fun j hj=>?_,?_,⟨by omega,hfree.2.2,by rw[g2.names];show ns0.length≤_;omega,by rw[g2.text];show t0.size≤_;omega⟩,fun hk hl t len ht hc=>?_⟩
 ·rw[g2.needs,g2.kind,g2.num,la];rfl
 ·rw[la]at hj
  obtain⟨x,hx⟩:∃x,as0[j]?=some x:=⟨_,List.getElem?_eq_getElem hj⟩
  obtain⟨o',ho'⟩:=jf.get (F:=F) (o:=o+(one (.mk k0 n0 t0 ns0 ts0 as0 ms0 p0)).length) hx;obtain⟨c,c1,c2⟩:=ho' g5;obtain⟨d,d1,d2⟩:=ho' j5;have:=TR.lT (k:=k0) (n:=n0) (t:=t0) (ns:=ns0) (ts:=ts0) (ms:=ms0) (p:=p0) (List.mem_of_getElem? hx);exact⟨c,d,by rw[IX (K:=K1) (cs:=cs) (C:=aA z) (by rw[a1];exact g3) (by omega)];exact c1,by rw[IX (K:=K2) (cs:=cs') (C:=aA w) (by rw[a2];exact j3) (by omega)];exact d1,x,o',by omega,c2,d2⟩
 ·have hb:=fun(x:TR.eR) (hx:x∈ms0)=>TR.nI (k:=k0) (n:=n0) (t:=t0) (ns:=ns0) (ts:=ts0) (xs:=as0) (p:=p0) hx
  exact⟨ars,ars',F5 (K:=K1) (C:=aB z) (by rw[b1];exact g4) (by rw[g6.len];omega),F5 (K:=K2) (C:=aB w) (by rw[b2];exact j4) (by rw[j6.len];omega),g6.two j6 (fun x hx=>by have:=hb x hx;omega) (fun x hx=>by have:=hb x hx;omega) fun e o a b he r1 r2=>⟨e,o,he,r1,r2⟩⟩
 ·have hi:oI (.mk k0 n0 t0 ns0 ts0 as0 ms0 p0)=true:=by
   unfold oI;rw[g2.kind]at hk;rw[hk];have:Nat.beq (TR.Ex.mk k0 n0 t0 ns0 ts0 as0 ms0 p0).args.length 0=false:=ue (by show as0.length≠0;omega);rw[this];rfl
  obtain⟨u1,u2,u3⟩:=g2.fn hi;rw[u1]at ht hc;rw[u2];exact⟨_,by omega,u3,ht,hc⟩
end
mutual
theorem Ln:∀(e:TR.Ex),∀x∈mT e,oI x=true∧TR.wE x≤TR.wE e
 |.mk k n t ns ts xs ms p=>by
  intro x h;rw[mT,List.mem_append,List.mem_append]at h;rcases h with h|h|h
  ·cases hq:(k==10)&&!(Nat.beq xs.length 0) with
   |false=>rw[hq]at h;cases h
   |true=>
    rw[hq]at h;rcases List.mem_cons.1 h with rfl|h
    ·exact⟨hq,Nat.le_refl _⟩
    ·cases h
  ·obtain⟨h1,y,h2,h3⟩:=On xs x h
   have:=TR.lT (k:=k) (n:=n) (t:=t) (ns:=ns) (ts:=ts) (ms:=ms) (p:=p) h2;exact⟨h1,by omega⟩
  ·obtain⟨h1,y,h2,h3⟩:=Ot ms x h
   have:=TR.nI (k:=k) (n:=n) (t:=t) (ns:=ns) (ts:=ts) (xs:=xs) (p:=p) h2;exact⟨h1,by omega⟩
theorem On:∀(l:List TR.Ex),∀x∈oA l,oI x=true∧∃y∈l,TR.wE x≤TR.wE y
 | []=>by intro x h;rw[oA]at h;cases h
 |e::r=>by
  intro x h;rw[oA,List.mem_append]at h;rcases h with h|h
  ·have:=Ln e x h;exact⟨this.1,e,List.mem_cons_self,this.2⟩
  ·obtain⟨h1,y,h2,h3⟩:=On r x h;exact⟨h1,y,List.mem_cons_of_mem _ h2,h3⟩
theorem Ot:∀(l:List TR.eR),∀x∈o9 l,oI x=true∧∃y∈l,TR.wE x≤TR.wE y.body
 | []=>by intro x h;rw[o9]at h;cases h
 |.mk p e::r=>by
  intro x h;rw[o9,List.mem_append]at h;rcases h with h|h
  ·have:=Ln e x h;exact⟨this.1,_,List.mem_cons_self,this.2⟩
  ·obtain⟨h1,y,h2,h3⟩:=Ot r x h;exact⟨h1,y,List.mem_cons_of_mem _ h2,h3⟩
end
theorem KU {p:TR.ql} (h:NN p):∀x∈kO p,oI x=true∧TR.wE x≤1048576:=by
 have key:∀(l:List QF),(∀f∈l,TR.wE f.2.2≤1048576)→∀x∈iF l,oI x=true∧TR.wE x≤1048576:=by
  intro l hl x hx;obtain⟨f,hf,hx⟩:=List.mem_flatMap.1 hx;have:=Ln f.2.2 x hx;have:=hl f hf;exact⟨(Ln f.2.2 x hx).1,by omega⟩
 intro x hx;unfold kO at hx;rw[List.mem_append,List.mem_append]at hx;rcases hx with(hx|hx)|hx
 ·obtain⟨y,hy,hx⟩:=List.mem_flatMap.1 hx
  exact key _ (fun f hf=>by obtain⟨g,hg,rfl⟩:=List.mem_map.1 hf;exact(h.im y hy g hg).2) x hx
 ·exact key _ (fun f hf=>by obtain⟨g,hg,rfl⟩:=List.mem_map.1 hf;exact(h.fu g hg).2) x hx
 ·exact key _ (fun f hf=>by obtain⟨g,hg,rfl⟩:=List.mem_map.1 hf;exact(h.ac g hg).2) x hx
theorem Cm.two {F:List TR.Ex} {z w:Ns} {fs:TM PF} {es es':TM Fn} (h1:Cm F z fs es) (h2:Cm F w fs es') (hs:∀f∈fs,DY (f.2.1,f.2.2.1)) (k:ByteArray):O2 (OZ (Ng F z w)) (bh k es) (bh k es'):=by
 have a1:=h1.find k;have a2:=h2.find k
 cases e0:bh k fs with
 |none=>
  rw[e0]at a1 a2
  cases e1:bh k es<;>cases e2:bh k es'<;>rw[e1]at a1<;>rw[e2]at a2
  ·trivial
  ·cases a2
  ·cases a1
  ·cases a1
 |some p=>
  rw[e0]at a1 a2
  have hm:∃a,(a,p)∈fs:=by
   clear h1 h2 a1 a2 hs
   induction fs with
   |nil=>cases e0
   |cons x r ih=>
    obtain⟨a,v⟩:=x;rw[bh]at e0
    cases hb:k==a with
    |true=>rw[hb]at e0;cases e0;exact⟨a,List.mem_cons_self⟩
    |false=>rw[hb]at e0;obtain⟨b,hb⟩:=ih e0;exact⟨b,List.mem_cons_of_mem _ hb⟩
  obtain⟨a,hm⟩:=hm;have hs:=hs _ hm
  cases e1:bh k es<;>cases e2:bh k es'<;>rw[e1]at a1<;>rw[e2]at a2
  ·cases a1
  ·cases a1
  ·cases a2
  ·exact⟨a2.1.trans a1.1.symm,by rw[a1.1];exact hs.1,p.2.1,p.2.2,hs.2,a1.2,a2.2⟩
theorem wg:∀(l:List QF) (o:Nat) (es:TM PF),(∀f∈l,DY f.2)→(∀f∈es,DY (f.2.1,f.2.2.1))→∀f∈KV l o es,DY (f.2.1,f.2.2.1)
 | [],_,_,_,h=>h
 |x::l,o,es,hl,h=>by
  rw[KV];refine wg l _ _ (fun f hf=>hl f (List.mem_cons_of_mem _ hf)) ?_;unfold firstT;split
  ·exact h
  ·intro f hf
   rcases List.mem_append.1 hf with hf|hf
   ·exact h f hf
   ·simp at hf;subst hf;exact hl x List.mem_cons_self
end MN
end
section
open Go Go.AM Go.Proofs TK
set_option maxRecDepth 100000
namespace MN
theorem FM {K:Ks} {z:Ns} {mk:Mk} {cs:List Nat} (hf:mk.funs=z.fu) (hu:Fu z cs) (ha:K.a=z.a) {i:Nat} (hi:i<cs.length):zx K mk i=cs[i]?:=by
 unfold zx;rw[hf,ha];unfold Fu at hu
 cases hq:z.fu with
 |none=>rw[hq]at hu;cases hu;simp at hi
 |some q=>
  rw[hq]at hu;obtain⟨h1,h2,_⟩:=hu;dsimp only;rw[show Nat.blt i q.2=true from Nat.ble_eq_true_of_le (by omega)];dsimp only;rw[h1]
theorem DD {K:Ks} {mk:Mk} {ims:List Im} (h:Bk K.im.2 (fun _=>True) mk.impls ims) (hl:ims.length≤2000000):ux K mk=some ims:=by
 unfold ux
 cases hq:mk.impls with
 |none=>rw[hq]at h;cases h;rfl
 |some q=>
  rw[hq]at h;obtain⟨h1,h2,_⟩:=h;dsimp only;rw[h1];dsimp only;rw[nY (by omega) (by omega),h2,List.take_length]
section
variable {F:List TR.Ex} {z w:Ns} {K1 K2:Ks}
theorem CE (tr ty name:ByteArray):∀{ps:List (TR.x7×Nat)} {l m:List Im},F2 (IR F z 0 K1.mf.2) ps l→F2 (IR F w 0 K2.mf.2) ps m→(∀x∈ps,∀f∈x.1.funcs,DY (lF f).2)→∃o o',qR K1 tr ty name l=some o∧qR K2 tr ty name m=some o'∧O2 (OZ (Ng F z w)) o o'
 | [],[],[],_,_,_=>⟨none,none,rfl,rfl,trivial⟩
 |p::ps,x::l,y::m,h1,h2,hs=>by
  obtain⟨⟨x1,x2,_,es,x3,x4⟩,h1⟩:=h1;obtain⟨⟨y1,y2,_,es',y3,y4⟩,h2⟩:=h2;rw[qR,qR,x1,x2,y1,y2]
  cases jU p.1.tr tr&&jU p.1.fo ty with
  |true=>
   dsimp only;rw[x3,y3];refine⟨_,_,rfl,rfl,x4.two y4 (wg _ _ _ (fun f hf=>?_) fun f hf=>by cases hf) name⟩;obtain⟨g,hg,rfl⟩:=List.mem_map.1 hf;exact hs p List.mem_cons_self g hg
  |false=>exact CE tr ty name h1 h2 fun x hx=>hs x (List.mem_cons_of_mem _ hx)
end
theorem Dr:∀{l:List TR.x7} {o:Nat} {x:TR.x7×Nat},x∈zI l o→x.1∈l
 |y::l,o,x,h=>by
  rw[zI]at h;rcases List.mem_cons.1 h with rfl|h
  ·exact List.mem_cons_self
  ·exact List.mem_cons_of_mem _ (Dr h)
theorem Og {p:TR.ql} (h:NN p) {K1 K2:Ks} {m1 m2:Nat} (h1:Kt p K1 m1) (h2:Kt p K2 m2):∃NR,KR K1 K2 (O3 (kO p)) NR m1 m2:=by
 obtain⟨z,mk,cs,es,ims,fs,acs,n1,a1,b1,k1,f1,u1,l1,e1,e1',t1,i1,il1,ir1,g1,g1',c1,c1'⟩:=h1.ex;obtain⟨w,mk',cs',es',ims',fs',acs',n2,a2,b2,k2,f2,u2,l2,e2,e2',t2,i2,il2,ir2,g2,g2',c2,c2'⟩:=h2.ex;subst e1';subst e2';have smf:∀f∈KV (p.funcs.map lF) (oz p.impls).length [],DY (f.2.1,f.2.2.1):=wg _ _ _ (fun f hf=>by obtain⟨g,hg,rfl⟩:=List.mem_map.1 hf;exact h.fu g hg) fun f hf=>by cases hf
 have sma:∀f∈KV (p.actors.map lA) ((oz p.impls).length+(iF (p.funcs.map lF)).length) [],DY (f.2.1,f.2.2.1):=wg _ _ _ (fun f hf=>by obtain⟨g,hg,rfl⟩:=List.mem_map.1 hf;exact h.ac g hg) fun f hf=>by cases hf
 have smi:∀x∈zI p.impls 0,∀f∈x.1.funcs,DY (lF f).2:=fun x hx f hf=>h.im x.1 (Dr hx) f hf;have lc1:cs.length=(kO p).length:=l1.len;have lc2:cs'.length=(kO p).length:=l2.len;have lb1:gx mk.funs=(kO p).length:=by rw[f1,←lc1];exact Bk.len u1
 have lb2:gx mk'.funs=(kO p).length:=by rw[f2,←lc2];exact Bk.len u2
 have fns:∀(i:Nat) (e:TR.Ex),(kO p)[i]?=some e→∃c d x y,zx K1 mk i=some c∧zx K2 mk' i=some d∧aJ c K1.n.2=some x∧aJ d K2.n.2=some y∧ND K1 K2 (O3 (kO p)) (Ng (kO p) z w) x y∧0<gx x.args∧x.free=TR.mJ e:=by
  intro i e hi;obtain⟨hfn,hw⟩:=KU h e (List.mem_of_getElem? hi);have hlt:=(List.getElem?_eq_some_iff.1 hi).1;obtain⟨c,q1,q2⟩:=ke.get l1 hi;obtain⟨d,r1,r2⟩:=ke.get l2 hi;obtain⟨x,y,s1,s2,s3,s4,s5⟩:=DJ n1 a1 b1 n2 a2 b2 hw q2 r2;refine⟨c,d,x,y,(FM f1 u1 a1 (by omega)).trans q1,(FM f2 u2 a2 (by omega)).trans r1,s1,s2,s3,?_,(s4.fn hfn).1⟩;rw[s5];unfold oI at hfn;rw[Bool.and_eq_true,Bool.not_eq_true']at hfn;have:=hfn.2
  cases hl:e.args.length with
  |zero=>rw[hl]at this;cases this
  |succ k=>omega
 refine⟨Ng (kO p) z w,⟨fun a b ⟨e,o,he,x,y⟩=>?_,⟨mk,mk',k1,k2,?_,?_,⟨acs,acs',c1,c2,fun name=>c1'.two c2' sma name⟩,⟨_,e1,e2⟩⟩,?_⟩⟩
 ·obtain⟨p',q',s1,s2,s3,_⟩:=DJ n1 a1 b1 n2 a2 b2 he x y
  exact⟨p',q',s1,s2,s3⟩
 ·rintro n t len ⟨e,p0,p1,p2,p3⟩
  obtain⟨c,d,x,y,s1,s2,s3,s4,s5,s6,s7⟩:=fns n.toNat e p1;exact⟨p0,c,d,x,y,s1,s2,s3,s4,s5,s6,by rw[s7];exact p3⟩
 ·intro ρ name xs ys hx
  have hfind:=g1'.two g2' smf name;unfold xU;rw[g1,g2];dsimp only
  cases q1:bh name fs<;>cases q2:bh name fs'<;>rw[q1,q2]at hfind
  ·dsimp only
   rw[t1,t2];dsimp only
   cases bh name (jy p.traits []) with
   |none=>exact⟨none,none,rfl,rfl,trivial⟩
   |some tr=>
    dsimp only;rcases xs with _|⟨v,xs⟩<;>rcases ys with _|⟨u,ys⟩
    all_goals first|(cases hx;done)|skip
    ·exact⟨none,none,rfl,rfl,trivial⟩
    ·dsimp only
     have ht:Dq K1 mk v=Dq K2 mk' u∧Dq K1 mk v≠none:=by
      obtain⟨o1,_,o3,_⟩:=hx.1.o;unfold Dq;rw[e1,e2,←o1,←o3];refine⟨rfl,?_⟩
      cases v.kind==5 with
      |true=>dsimp only;cases bh v.text (mE p.datas [])<;>simp
      |false=>dsimp only;cases jU (oN v.kind) ⟨#[]⟩<;>simp
     rw[←ht.1]
     cases hty:Dq K1 mk v with
     |none=>exact absurd hty ht.2
     |some o=>
      cases o with
      |none=>exact⟨none,none,rfl,rfl,trivial⟩
      |some t=>
       dsimp only;rw[DD i1 il1,DD i2 il2];exact CE tr t name ir1 ir2 smi
  ·cases hfind
  ·cases hfind
  ·exact⟨_,_,rfl,rfl,hfind⟩
 ·rintro⟨k,num,t,l⟩
  unfold xG;dsimp only;rw[k1,k2];dsimp only;rw[lb1,lb2]
  cases hn:decide (num<0)||decide (num≥((kO p).length:Int)) with
  |true=>exact⟨_,rfl,rfl,fun e=>by cases e⟩
  |false=>
   simp only[Bool.or_eq_false_iff,decide_eq_false_iff_not]at hn;obtain⟨e,he⟩:∃e,(kO p)[num.toNat]?=some e:=⟨_,List.getElem?_eq_getElem (by omega)⟩
   obtain⟨c,d,x,y,s1,s2,s3,s4,s5,s6,s7⟩:=fns _ e he;dsimp only;rw[s1,s2];dsimp only;rw[s3,s4];dsimp only;rw[s5.free]
   cases hs:(t.size:Int)==(x.free.length:Int) with
   |false=>exact⟨_,rfl,rfl,fun e=>by cases e⟩
   |true=>
    refine⟨_,rfl,rfl,fun hb k' n' t' l' hv=>?_⟩;cases hv;have hs:=eq_of_beq hs;have hb:=(Bool.and_eq_true .. |>.mp hb).2;have hb:=eq_of_beq hb;unfold cntF Lib.countByte at hb;have:=s5.bnd.2.1;dsimp only;rw[s7]at hs this;exact⟨⟨e,by omega,he,by omega,tT t l.length (TR.mJ e) 0 0 (by rw[←vX];omega) (by rw[List.drop_zero];omega)⟩,by omega⟩
end MN
end
section
open Go Go.AM Go.Proofs TK
set_option maxRecDepth 100000
namespace MN
structure KL (S:Ss):Prop where
 s:gf S.s
 v:gf S.v
 f:gf S.f
 c:gf S.c
 n:gY S.c.2=true
theorem KL.sb {S T:Ss} (h:KL S) (q:KL T) (fo:Int→ByteArray→Nat→Prop):SB fo (fun _ _=>False) S T:=
 ⟨⟨fun _ _ x=>x.elim,fun _ _ _ _ x=>x.elim,h.c,q.c,h.n,q.n⟩,h.s,q.s,h.v,q.v,h.f,q.f⟩
theorem SB.ok {fo:Int→ByteArray→Nat→Prop} {ρ:Nat→Nat→Prop} {S T:Ss} (h:SB fo ρ S T):KL S∧KL T:=
 ⟨⟨h.s1,h.v1,h.f1,h.cr.b1,h.cr.n1⟩,⟨h.s2,h.v2,h.f2,h.cr.b2,h.cr.n2⟩⟩
structure Pu (st:List Ov) (l:List r8):Prop where
 sv:∀v∈st,GQ v
 sl:st.length≤2000000
 ls:∀s∈l,GQ s.val
theorem oX {p:TR.ql} (h:NN p) {K1 K2:Ks} {m1 m2:Nat} (h1:Kt p K1 m1) (h2:Kt p K2 m2) {S T:Ss} (s1:KL S) (s2:KL T) (name:ByteArray) {st:List Ov} (fuels:List Int) {l:List r8} (hi:Pu st l):
 ∃R S' r T' q,kC K1 S m1 name st fuels l=some (R,S',r)∧kC K2 T m2 name st fuels l=some (R,T',q)∧KL S'∧KL T'∧∀x,R=some x→qJ 0 x:=by
 obtain⟨NR,kr⟩:=Og h h1 h2;obtain⟨S1,T1,ρ,_,⟨e,e1,e2,e3⟩|⟨r,q,e1,e2,e3,e4,e5,e6⟩⟩:=LU kr (s1.sb s2 _) name st 7 hi.sv hi.sl
 ·unfold kC
  rw[e1,e2];exact⟨none,S1,none,T1,none,rfl,rfl,e3.ok.1,e3.ok.2,fun x e=>by cases e⟩
 ·obtain⟨R,S2,r2,T2,q2,ρ2,g1,g2,g3,g4⟩:=Gl kr fuels 60001 0 1000 0 l [] e3 e4 e5 e6 (by omega) (by omega) (by omega) (by omega) hi.ls ⟨fun _ h=>(by cases h),by simp⟩
  unfold kC;rw[e1,e2];dsimp only;rw[g1,g2];exact⟨R,S2,some r2,T2,some q2,rfl,rfl,g3.ok.1,g3.ok.2,g4⟩
end MN
end
section
open Go Go.AM Go.Proofs
set_option maxRecDepth 100000
namespace TR
def iC (p:Pt):Nat→List Pt
 |0=>[p]
 |k+1=>match (iC p k)[k]? with|some x=>iC p k++x.args|none=>iC p k
theorem jP:∀(l:List Pt),l.length≤bT l
 | []=>by simp
 |e::r=>by have:=jP r;have:=D3 e;rw[bT];simp;omega
theorem He (p:Pt) (hp:wP p≤1048640):aU Tryz.prog 50 [.p (eP p)] (.p (.sl 4 (ov (iC p (fe p))))):=by
 have hle:=xK p;generalize hn:fe p=N at hle;generalize hP:iC p=S;have hS0:S 0=[p]:=by rw[←hP];rfl
 have hS1:∀k x,(S k)[k]?=some x→S (k+1)=S k++x.args:=fun k x h=>by rw[←hP]at h ⊢;rw[iC];simp only[h]
 have h0:0+bT ([p].drop 0)=N:=by simp[bT,hn]
 clear hP hn;obtain⟨k0,n0,t0,as0⟩:=p;refine aU.intro (ah Tryz.prog) az Tryz.func50 rfl (by rfl) (by kernel_rfl) (by show 1≤_;decide) rfl ?_;(conv=>whnf);refine bK (ah _) az (by kernel_rfl) N [3,4] [] (fun k (s:List Pt)=>[.so 4 (ov s),.p (.i .i64 (ix k))]) (fun _ _=>[]) (fun k s=>s=S k∧k≤s.length∧k+bT (s.drop k)=N) [.mk k0 n0 t0 as0] ⟨rfl,rfl,rfl,rfl⟩ ⟨hS0.symm,by simp,h0⟩ ?_;rintro k s hk ⟨hs,hkl,hN⟩;have hlen:=jP (s.drop k);simp only[List.length_drop]at hlen;(conv=>whnf);refine aj ?_ ?_<;>intro h1<;>conv=>whnf
 ·have hk1:=cj h1 (by rw[gP]) hkl (by omega)
  obtain⟨b,hb1⟩:∃b,s[k]?=some b:=⟨s[k],by simp[hk1]⟩
  refine bM (tN hb1) (by omega) ?_;rw[drop_cons hb1,bT]at hN;have hS2:=hS1 k b (by rw[←hs];exact hb1);obtain⟨bk,bn,bt,ba⟩:=b;rw[fe]at hN;have hal:=jP ba;have hdl:=jP (s.drop (k+1));simp only[List.length_drop]at hdl;(conv=>whnf);refine ag (show((ov s).length+(ov ba).length)*56≤140737488355328 by rw[gP,gP];omega) ?_;(conv=>whnf);refine⟨by omega,s++ba,⟨rfl,?_,rfl,rfl⟩,by rw[hS2,hs];rfl,by simp;omega,?_⟩
  ·rw[F6];rfl
  ·rw[List.drop_append_of_le_length (by omega),lZ];omega
 ·have hk1:=cm h1 (by rw[gP]) hkl (by omega)
  have:k=N:=by rw[hk1,List.drop_length,bT]at hN;omega
  subst this;subst hs;exact .inr (.inl rfl)
theorem Ay (p:Pt):∀k,k≤fe p→k≤(iC p k).length∧k+bT ((iC p k).drop k)=fe p
 |0,_=>by simp[iC,bT]
 |k+1,h=>by
  obtain⟨h1,h2⟩:=Ay p k (by omega);rcases Nat.lt_or_ge k (iC p k).length with q|q
  ·have hb:(iC p k)[k]?=some (iC p k)[k]:=List.getElem?_eq_getElem q
   have e:iC p (k+1)=iC p k++(iC p k)[k].args:=by rw[iC];simp only[hb]
   rw[drop_cons hb,bT]at h2;rw[e,List.drop_append_of_le_length (by omega),lZ];generalize (iC p k)[k]=b at h2;obtain⟨bk,bn,bt,ba⟩:=b;rw[fe]at h2;simp only[Pt.args,List.length_append];omega
  ·rw[List.drop_eq_nil_of_le q,bT]at h2;omega
theorem G7 (p:Pt):(iC p (fe p)).length=fe p:=by
 obtain⟨h1,h2⟩:=Ay p (fe p) (Nat.le_refl _);have:=jP ((iC p (fe p)).drop (fe p));simp only[List.length_drop]at this;omega
def LZ (e:Ex):Nat:=1+bT (e.dR.map eR.pat)
def oE:List Ex→Nat
 | []=>0
 |e::r=>LZ e+oE r
theorem oC (l r:List Ex):oE (l++r)=oE l+oE r:=by
 induction l with
 |nil=>simp[oE]
 |cons a l ih=>simp[oE,ih];omega
mutual
theorem xm:∀(e:Ex),oE (fW e)=oG e
 |.mk k n t ns ts xs ms p=>by
  rw[fW,oE,oC,Av xs,oG,LZ];have:=Au ms;simp only[Ex.dR];omega
theorem Av:∀(l:List Ex),oE (cX l)=nU l
 | []=>rfl
 |e::r=>by rw[cX,oC,xm e,Av r,nU]
theorem Au:∀(l:List eR),bT (l.map eR.pat)+oE (jo l)=nN l
 | []=>rfl
 |.mk p e::r=>by
  have:=Au r;rw[jo,oC,xm e,nN,List.map_cons,bT];simp only[eR.pat];omega
end
theorem Lm:∀(l:List Ex) (k:Nat),oE (l.take k)≤oE l:=fun l k=>by
 have:=oC (l.take k) (l.drop k);rw[List.take_append_drop]at this;omega
end TR
end
section
open Go Go.AM Go.Proofs
set_option maxRecDepth 100000
namespace TR
structure Rw where
 nx:Nat
 k:Nat
 l:List Ex
 n:Nat
def Rw.push (s:Rw) (x:Ex):Rw:=⟨s.nx+1,s.nx,s.l.take s.n++[x],s.n+1⟩
def Rw.row (s:Rw):List Ex:=s.l.take s.n
def Rw.ok (s:Rw):Prop:=s.n≤s.l.length
theorem Rw.KX (s:Rw) (x:Ex) (h:s.ok):(s.push x).ok:=by unfold Rw.ok at *;show s.n+1≤(s.l.take s.n++[x]).length;simp;omega
theorem Rw.JJ (s:Rw) (x:Ex) (h:s.ok):(s.push x).row=s.row++[x]:=by
 unfold Rw.ok at h;show(s.l.take s.n++[x]).take (s.n+1)=s.l.take s.n++[x]
 rw[List.take_of_length_le (by simp;omega)]
def jN (s:Rw) (xs:List Ex):Rw:=xs.foldl Rw.push s
theorem xW:∀(xs:List Ex) (s:Rw),s.ok→(jN s xs).ok∧(jN s xs).row=s.row++xs
 | [],s,h=>⟨h,by simp[jN]⟩
 |x::r,s,h=>by
  have:=xW r (s.push x) (s.KX x h);rw[s.JJ x h]at this;exact⟨this.1,by rw[show jN s (x::r)=jN (s.push x) r from rfl,this.2];simp⟩
theorem BN:∀(xs:List Ex) (s:Rw),(jN s xs).n=s.n+xs.length
 | [],s=>rfl
 |x::r,s=>by
  rw[show jN s (x::r)=jN (s.push x) r from rfl,BN r];show s.n+1+r.length=s.n+(r.length+1)
  omega
theorem yP (s:Rw) (l:List Ex) (x:Ex):jN s (l++[x])=(jN s l).push x:=by simp[jN]
def Ev:Nat→Rw→List Ex→Rw×List Ex
 |0,s,out=>(s,out)
 |k+1,s,out=>match s.n with
  |0=>(s,out)
  |n+1=>match s.l[n]? with
   |none=>(s,out)
   |some x=>Ev k (jN (jN { s with n:=n } (x.dR.map eR.body).reverse) x.args.reverse) (out++[x])
noncomputable def PT:Nat→Option TI:=hint (jJ Tryz.prog) 98 [1000009]
theorem wD:bw Tryz.prog PT:=(ah Tryz.prog).hint _ _
def Pe (s:Rw):bq:=.store 101 false 31 s.nx 8 [(s.k,dZ s.l)]
theorem Ir (l:List Ex) (k:Nat):dZ (l.take k)=(dZ l).take k:=by simp[iK,List.map_take]
theorem CT (s:Rw) (x:Ex):(s.nx,(dZ s.l).take s.n++[eE x])::mC s.k [(s.k,dZ s.l)]=[(s.nx,dZ (s.l.take s.n++[x]))]:=by
 rw[mC,Nat.beq_refl,sZ,Ir];rfl
theorem Bv (k:Nat) (xs:List PV):rQ k [(k,xs)]=some xs:=by rw[rQ,Nat.beq_refl]
theorem K7 (e:Ex) (he:wE e≤1048640):av Tryz.prog 49 [.p (eE e)] [(1000000000,.store 101 false 31 0 8 [])] (.p (.sl 8 (dZ (fW e)))) [(1000000000,Pe (Ev (fW e).length ⟨1,0,[e],1⟩ []).1)]:=by
 have hwl:=wu e;have hsl:=size_le e;have hmem:=fun x (h:x∈fW e)=>tq e h;generalize hW:fW e=W at hwl hmem;generalize hF:Ev W.length ⟨1,0,[e],1⟩ []=F;unfold Pe;obtain⟨k0,n0,t0,ns0,ts0,as0,ms0,p0⟩:=e;refine av.intro wD az Tryz.func49 rfl (by rfl) (by kernel_rfl) (by show 1≤_;decide) rfl ?_;(conv=>whnf);refine nM 4 7 rfl ?_
 refine bK wD az (by kernel_rfl) W.length [3,4] [1000000000] (fun j (s:Rw×List Ex)=>[.p (.jV 31 s.1.k s.1.n),.so 8 (dZ s.2)])
  (fun j s=>[.store 101 false 31 s.1.nx 8 [(s.1.k,dZ s.1.l)]]) (fun j s=>(s.1.ok∧s.2.length=j)∧s.2++cX s.1.row.reverse=W∧Ev (W.length-j) s.1 s.2=F) (⟨1,0,[.mk k0 n0 t0 ns0 ts0 as0 ms0 p0],1⟩,[]) ⟨rfl,rfl,rfl,rfl⟩ ⟨⟨Nat.le_refl _,rfl⟩,by simp[cX,Rw.row,hW],hF⟩ ?_
 rintro j ⟨s,out⟩ hj ⟨⟨hok,hol⟩,hinv,hQ⟩;dsimp only at hok hol hinv hQ;(conv=>whnf);refine aj ?_ ?_<;>intro h1<;>conv=>whnf
 ·obtain⟨nx,k,l,n⟩:=s
  have h1:(n:Int)>0:=of_decide_eq_true h1;obtain⟨n,rfl⟩:∃m,n=m+1:=⟨n-1,by omega⟩
  have hok:n+1≤l.length:=hok;obtain⟨x,hx⟩:∃x,l[n]?=some x:=⟨_,List.getElem?_eq_getElem (by omega)⟩
  have hrow:(⟨nx,k,l,n+1⟩:Rw).row=l.take n++[x]:=by show l.take (n+1)=_;exact cJ hx
  have hxW:x∈W:=by rw[←hinv,hrow,List.reverse_append,qW,List.reverse_singleton,cX,cX,nA];simp
  have hxw:=hmem x hxW
  have hWl:out.length+((fW x).length+(cX (l.take n).reverse).length)=W.length:=by
   rw[←hinv,hrow,List.reverse_append,qW,List.reverse_singleton,cX,cX];simp
  have hrl:n+1≤(fW x).length+(cX (l.take n).reverse).length:=by
   have:=x9 (l.take n).reverse;rw[nA];simp at this ⊢;omega
  have e1:IntKind.i64.wrap (((n+1:Nat):Int)-1)=(n:Int):=by rw[wrap64 (by omega) (by omega)];omega
  rw[e1];have hsp:(⟨nx,k,l,n⟩:Rw).ok:=Nat.le_of_succ_le hok;have hxl:=fun k n t ns ts xs ms p (q:x=Ex.mk k n t ns ts xs ms p)=>q ▸ tP k n t ns ts xs ms p;have hout2:dZ (out++[x])=dZ out++[eE x]:=by rw[sZ];rfl
  have hxe:=nT hx
  have hjW:W.length-j=(W.length-(j+1))+1:=by
   have:0<(fW x).length:=by rw[nA];simp
   omega
  rw[hjW,Ev]at hQ;dsimp only at hQ;rw[hx]at hQ;dsimp only at hQ;obtain⟨k1,n1,t1,ns1,ts1,as1,ms1,p1⟩:=x;have hxl:=hxl _ _ _ _ _ _ _ _ rfl;simp only[Ex.args,Ex.dR]at hQ;rw[eE]at hxe hout2;refine ag ⟨by omega,by show(n:Int).toNat<n+1;omega⟩ ?_;(conv=>whnf);refine ag ⟨rfl,by decide,.inr rfl⟩ ?_;refine⟨_,Bv _ _,?_⟩;refine au (i:=n) hxe ?_;(conv=>whnf);rw[e1];refine ag ⟨by omega,by show(n:Int)≤((n+1:Nat):Int);omega⟩ ?_;(conv=>whnf);refine ag (show((dZ out).length+1)*136≤140737488355328 by rw[cA];omega) ?_;(conv=>whnf);generalize hS0:(⟨nx,k,l,n⟩:Rw)=S0 at hQ hsp;have hS0n:S0.n=n:=by rw[←hS0]
  refine bK wD az (by kernel_rfl) ms1.length [3,4,5,6] [5,1000000000] (fun j (s:Rw)=>[.p (.jV 31 s.k s.n),.so 8 (dZ out++[.agg [.i .i64 k1,.i .i64 n1,.s t1,.sl 1 (ns1.map bD),.sl 3 (lG ts1),.sl 8 (dZ as1),.sl 12 (jz ms1),.i .i64 p1]]),.ptr 5 0,.p (.i .i64 (dn (IntKind.i64.wrap (((jz ms1).length:Int)-1)) j))])
   (fun j s=>[.cells [.p (.i .i64 k1),.p (.i .i64 n1),.p (.s t1),.p (.sl 1 (ns1.map bD)),.p (.sl 3 (lG ts1)),.p (.sl 8 (dZ as1)),.p (.sl 12 (jz ms1)),.p (.i .i64 p1)],.store 101 false 31 s.nx 8 [(s.k,dZ s.l)]])
   (fun j s=>s=jN S0 ((ms1.map eR.body).reverse.take j)) S0 ⟨by rw[←hS0];rfl,by rw[←hS0];rfl,rfl,rfl⟩ rfl ?_
  intro k2 s hk3 hs;have hs1:=xW ((ms1.map eR.body).reverse.take k2) S0 hsp;have hs2:=BN ((ms1.map eR.body).reverse.take k2) S0;rw[←hs]at hs1 hs2;have hsl2:s.n≤4194304:=by rw[hs2,hS0n];simp;omega
  (conv=>whnf);refine aj ?_ ?_<;>intro h2<;>conv=>whnf
  ·have hk4:=L3 h2 (by rw[iT]) (by omega) hk3
   obtain⟨b,hb1,hb2⟩:=Gr hk4;refine Mj (su hb2) (by rw[iT]) (by omega) hk4 ?_;have hts:(ms1.map eR.body).reverse.take (k2+1)=(ms1.map eR.body).reverse.take k2++[b.body]:=cJ (by rw[←List.map_reverse,List.getElem?_map,hb1];rfl);obtain⟨⟨bk,bn,bt,ba⟩,⟨b1,b2,b3,b4,b5,b6,b7,b8⟩⟩:=b;have hrp:=CT s (.mk b1 b2 b3 b4 b5 b6 b7 b8);rw[eE]at hrp;(conv=>whnf);refine⟨rfl,_,Bv _ _,?_⟩;refine ag ⟨by rw[cA];exact hs1.1,show(s.n+1)*136≤140737488355328 by omega⟩ ?_;(conv=>whnf);refine⟨hk4,s.push (.mk b1 b2 b3 b4 b5 b6 b7 b8),⟨?_,rfl,rfl,rfl⟩,by rw[hts,yP,hs];rfl⟩;show _=List.map some [bq.cells _,.store 101 false 31 (s.nx+1) 8 [(s.nx,dZ (s.l.take s.n++[.mk b1 b2 b3 b4 b5 b6 b7 b8]))]];rw[←hrp];rfl
  ·have hk4:=L7 h2 (by rw[iT]) (by omega) hk3
   have hs3:s=jN S0 (ms1.map eR.body).reverse:=by rw[hs,List.take_of_length_le (by simp[hk4])]
   rw[←hs3]at hQ
   refine bK wD az (by kernel_rfl) as1.length [3,4,5,7] [5,1000000000] (fun j (s:Rw)=>[.p (.jV 31 s.k s.n),.so 8 (dZ out++[.agg [.i .i64 k1,.i .i64 n1,.s t1,.sl 1 (ns1.map bD),.sl 3 (lG ts1),.sl 8 (dZ as1),.sl 12 (jz ms1),.i .i64 p1]]),.ptr 5 0,.p (.i .i64 (dn (IntKind.i64.wrap (((dZ as1).length:Int)-1)) j))])
    (fun j s=>[.cells [.p (.i .i64 k1),.p (.i .i64 n1),.p (.s t1),.p (.sl 1 (ns1.map bD)),.p (.sl 3 (lG ts1)),.p (.sl 8 (dZ as1)),.p (.sl 12 (jz ms1)),.p (.i .i64 p1)],.store 101 false 31 s.nx 8 [(s.k,dZ s.l)]])
    (fun j s'=>s'=jN s (as1.reverse.take j)) s ⟨rfl,rfl,rfl,rfl⟩ rfl ?_
   intro k5 s5 hk5 hs5;have hs6:=xW (as1.reverse.take k5) s hs1.1;have hs7:=BN (as1.reverse.take k5) s;rw[←hs5]at hs6 hs7;have hsl5:s5.n≤8388608:=by rw[hs7];simp;omega
   (conv=>whnf);refine aj ?_ ?_<;>intro h3<;>conv=>whnf
   ·have hk6:=L3 h3 (by rw[cA]) (by omega) hk5
    obtain⟨b,hb1,hb2⟩:=Gr hk6;refine Mj (nT hb2) (by rw[cA]) (by omega) hk6 ?_;have hts:=cJ hb1;obtain⟨b1,b2,b3,b4,b5,b6,b7,b8⟩:=b;have hrp:=CT s5 (.mk b1 b2 b3 b4 b5 b6 b7 b8);rw[eE]at hrp;(conv=>whnf);refine⟨rfl,_,Bv _ _,?_⟩;refine ag ⟨by rw[cA];exact hs6.1,show(s5.n+1)*136≤140737488355328 by omega⟩ ?_;(conv=>whnf);refine⟨hk6,s5.push (.mk b1 b2 b3 b4 b5 b6 b7 b8),⟨?_,rfl,rfl,rfl⟩,by rw[hts,yP,hs5]⟩;show _=List.map some [bq.cells _,.store 101 false 31 (s5.nx+1) 8 [(s5.nx,dZ (s5.l.take s5.n++[.mk b1 b2 b3 b4 b5 b6 b7 b8]))]];rw[←hrp];rfl
   ·have hk6:=L7 h3 (by rw[cA]) (by omega) hk5
    have hs8:s5=jN s as1.reverse:=by rw[hs5,List.take_of_length_le (by simp[hk6])]
    rw[←hs8]at hQ;refine⟨by omega,(s5,out++[Ex.mk k1 n1 t1 ns1 ts1 as1 ms1 p1]),⟨rfl,?_,rfl,rfl⟩,⟨⟨hs6.1,by simp[hol]⟩,?_,by dsimp only;exact hQ⟩⟩
    ·show _=[_,AV.so 8 (dZ (out++[Ex.mk k1 n1 t1 ns1 ts1 as1 ms1 p1]))]
     rw[hout2];rfl
    ·dsimp only
     rw[←hinv,hrow,hs6.2,hs1.2,hk4,hk6];rw[show S0.row=l.take n by rw[←hS0];rfl,List.take_of_length_le (show as1.reverse.length≤as1.length by simp),List.take_of_length_le (show(ms1.map eR.body).reverse.length≤ms1.length by simp)];simp[qW,cX,fW,FJ]
 ·have hn0:s.n=0:=by have h1:¬((s.n:Int)>0):=of_decide_eq_false h1;omega
  have hr0:s.row=[]:=by unfold Rw.row;rw[hn0];rfl
  rw[hr0]at hinv;have hw:out=W:=by simpa[cX] using hinv
  subst hw
  have hFs:F.1=s:=by
   rw[←hQ];generalize out.length-j=m
   cases m with
   |zero=>rfl
   |succ m=>rw[Ev,hn0]
  rw[hFs];exact⟨.inr rfl,MN.s6,trivial⟩
theorem JF (e:Ex) (he:wE e≤1048640):av Tryz.prog 49 [.p (eE e)] [] (.p (.sl 8 (dZ (fW e)))) []:=by
 have h:=K7 e he;refine av.Mt (G:=[]) (st:=[(1000000000,.store 101 false 31 0 8 [])]) (st':=[(1000000000,Pe (Ev (fW e).length ⟨1,0,[e],1⟩ []).1)]) h (by simp[uE,rP e]) rfl rfl ?_;show aT (dZ (fW e))=true;rw[iK];exact jt eE _ fun x _=>rP x
end TR
end
