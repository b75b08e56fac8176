/- Contracts, and the law, for every input. No conditions. -/
import Derived.Test.YtdmopjgjhfhfdaaGreatDoorTK1
import Derived.Test.YtdmopjgjhfhfdaaGreatDoorMN5
import Derived.Test.YtdmopjgjhfhfdaaGreatDoorAMRngD
set_option linter.all false
section
open Go Go.AM Go.Proofs TK
set_option maxRecDepth 100000
namespace MN
def O9 (K:Ks):Heap:=[(1000000000,sG K.mm),(1000000001,iH K.n),(1000000002,xS K.a)]
theorem HW (K:Ks) (m:Nat) (v:Ov) (R:ByteArray×Bool) (hF:wZ K m v=some R):
 av Tryz.prog 38 [.p (.bH mS m),.p (eO v)] (O9 K) (.cA [.p (.s R.1),.p (.b R.2)]) (O9 K):=by
 obtain⟨k,num,t,l⟩:=v;have c1:=rW t.data.toList 49;have c2:=rW t.data.toList 48;rw[←NB t]at c1 c2;have hlen:=kE l;unfold wZ at hF;rw[eO];dsimp only at hF
 cases hm:aK m K.mm.2 with
 |none=>rw[hm]at hF;cases hF
 |some mk=>
  rw[hm]at hF;obtain⟨m1,m2,m3,m4,m5,m6⟩:=mk;dsimp only at hF;unfold O9 sG iH xS;refine av.intro (ah Tryz.prog) aC Tryz.func38 rfl (by rfl) (by kernel_rfl) (by show 2≤_;decide) rfl ?_;(conv=>whnf);refine aj ?_ ?_<;>intro h1<;>conv=>whnf
  ·rw[show decide (num<0)=true from h1,Bool.true_or]at hF
   cases hF;refine ag (.inl (by kernel_rfl)) ?_;(conv=>whnf);refine⟨.inl rfl,⟨s6,s6,s6,trivial⟩⟩
  rw[show decide (num<0)=false from h1,Bool.false_or]at hF;have h1':¬num<0:=of_decide_eq_false h1
  cases m1 with
  |none=>
   rw[show decide (num≥(gA none:Int))=true from decide_eq_true (by show num≥((0:Nat):Int);omega)]at hF;cases hF;refine bC iU hm rfl ?_;(conv=>whnf);refine dw (decide_eq_true (by show num≥((0:Nat):Int);omega)) ?_;(conv=>whnf);refine ag (.inl (by kernel_rfl)) ?_;(conv=>whnf);refine⟨.inl rfl,⟨s6,s6,s6,trivial⟩⟩
  |some q=>
   obtain⟨q1,q2⟩:=q;refine bC iU hm rfl ?_;(conv=>whnf);refine aj ?_ ?_<;>intro h2<;>conv=>whnf
   ·rw[show decide (num≥(gA (some (q1,q2)):Int))=true from h2]at hF
    cases hF;refine ag (.inl (by kernel_rfl)) ?_;(conv=>whnf);refine⟨.inl rfl,⟨s6,s6,s6,trivial⟩⟩
   ·rw[show decide (num≥(gA (some (q1,q2)):Int))=false from h2]at hF
    have h2':¬num≥(q2:Int):=of_decide_eq_false h2;dsimp only at hF;unfold zD at hF;dsimp only at hF;have hlt:num.toNat<q2:=by omega
    rw[show Nat.blt num.toNat q2=true from by rw[Nat.blt_eq];exact hlt]at hF;dsimp only at hF
    cases ha:aK q1 K.a.2 with
    |none=>rw[ha]at hF;cases hF
    |some al=>
     rw[ha]at hF;dsimp only at hF
     cases hc:al[num.toNat]? with
     |none=>rw[hc]at hF;cases hF
     |some c=>
      rw[hc]at hF;dsimp only at hF
      cases hn:aK c K.n.2 with
      |none=>rw[hn]at hF;cases hF
      |some nd=>
       rw[hn]at hF;obtain⟨n1,n2,n3,n4,n5,n6,n7,n8,n9⟩:=nd;dsimp only at hF;have hfl:(n9.map PV.s).length=n9.length:=List.length_map _;refine bC iU hm rfl ?_;(conv=>whnf);refine ag ⟨by omega,hlt⟩ ?_;(conv=>whnf);refine ag ⟨rfl,by decide,.inr rfl⟩ ?_;refine⟨_,aq ha,?_⟩;refine au (i:=num.toNat) (x:=.bH nS c) (by unfold ry;rw[List.getElem?_map,hc];rfl) ?_;(conv=>whnf);refine bC dc hn rfl ?_;(conv=>whnf);refine ag (.inl (by kernel_rfl)) ?_;(conv=>whnf);refine aj ?_ ?_<;>intro h3<;>conv=>whnf
       ·rw[show((t.size:Int)==(n9.length:Int))=false by rw[←hfl];simpa using h3]at hF
        cases hF;refine⟨.inl rfl,⟨s6,s6,s6,trivial⟩⟩
       rw[show((t.size:Int)==(n9.length:Int))=true by rw[←hfl];simpa using h3]at hF;dsimp only at hF;cases hF;refine jA c1 ?_;(conv=>whnf);refine jA c2 ?_;(conv=>whnf);refine ag (.inl (by kernel_rfl)) ?_;(conv=>whnf);refine aj ?_ ?_<;>intro h4<;>conv=>whnf
       ·rw[show(IntKind.i64.wrap (cntF t 49+cntF t 48)==(t.size:Int))=true from h4,Bool.true_and,←hlen]
        refine ag (.inl (by kernel_rfl)) ?_;(conv=>whnf);refine⟨.inl rfl,⟨s6,s6,s6,trivial⟩⟩
       ·rw[show(IntKind.i64.wrap (cntF t 49+cntF t 48)==(t.size:Int))=false from h4,Bool.false_and]
        refine ag (.inl (by kernel_rfl)) ?_;(conv=>whnf);refine⟨.inl rfl,⟨s6,s6,s6,trivial⟩⟩
end MN
end
section
open Go Go.AM Go.Proofs TK
set_option maxRecDepth 100000
namespace MN
theorem wC {s:ByteArray} {c:UInt8} (h:cO s c=true):s=⟨#[c]⟩:=by
 unfold cO at h;rw[NB s,show(⟨#[c]⟩:ByteArray)=B [c] from rfl,s8]at h;have:=eq_of_beq h;rw[NB s,this];rfl
theorem oM {op:ByteArray} (h:lN op=true):cO op 43=true∨cO op 45=true∨cO op 42=true∨cO op 47=true∨cO op 37=true∨cO op 60=true:=by
 unfold lN at h;simpa[or_assoc] using h
theorem Qe (z:bf (List Vl)) (op:ByteArray) (e:lN op=true) (xs:List Vl) (R:Vl×ByteArray) (hl:xs.length≤2000001) (hF:dW op xs=some R):
 av Tryz.prog 255 [.p (.s op),.p (.sl 5 (bu xs))] [(1000000000,oG z)] (.cA [.p (eV R.1),.p (.s R.2)]) [(1000000000,oG z)]:=by
 have n1:(op.toList==HD.toList)=false:=by rcases oM e with h|h|h|h|h|h<;>rw[wC h]<;>decide +kernel
 have n2:(op.toList==Em.toList)=false:=by rcases oM e with h|h|h|h|h|h<;>rw[wC h]<;>decide +kernel
 unfold dW at hF;rw[e]at hF;unfold oG;refine av.pZ (ah Tryz.prog) Tryz.func255 rfl (by rfl) (by show 2≤_;decide) rfl ?_;refine iN.cut (ah Tryz.prog) aC (by kernel_rfl) 3 [0,1,4,6,7] [4,1000000000] (fun _:Unit=>[.p (.s op),.p (.sl 5 (bu xs)),.ptr 4 0,.p (.i .i64 2),.p (.i .i64 2)]) (fun _=>[.cells [.p (.i .i64 0),.p (.i .i64 0),.p (.s ⟨#[]⟩),.cu,.p .fW],.store 139 false vS z.1 5 (cC bu z.2)]) (fun _=>True) ?_ ?_
 ·conv=>whnf
  cases e0:cO op 43 with
  |true=>
   refine dw e0 ?_;(conv=>whnf);refine dw e0 ?_;(conv=>whnf);exact⟨(),⟨rfl,rfl,rfl,rfl⟩,trivial⟩
  |false=>
   refine bD e0 ?_;(conv=>whnf)
   cases e1:cO op 45 with
   |true=>
    refine dw e1 ?_;(conv=>whnf);refine dw e1 ?_;(conv=>whnf);exact⟨(),⟨rfl,rfl,rfl,rfl⟩,trivial⟩
   |false=>
    refine bD e1 ?_;(conv=>whnf)
    cases e2:cO op 42 with
    |true=>
     refine dw e2 ?_;(conv=>whnf);refine dw e2 ?_;(conv=>whnf);exact⟨(),⟨rfl,rfl,rfl,rfl⟩,trivial⟩
    |false=>
     refine bD e2 ?_;(conv=>whnf)
     cases e3:cO op 47 with
     |true=>
      refine dw e3 ?_;(conv=>whnf);refine dw e3 ?_;(conv=>whnf);exact⟨(),⟨rfl,rfl,rfl,rfl⟩,trivial⟩
     |false=>
      refine bD e3 ?_;(conv=>whnf)
      cases e4:cO op 37 with
      |true=>
       refine dw e4 ?_;(conv=>whnf);refine dw e4 ?_;(conv=>whnf);exact⟨(),⟨rfl,rfl,rfl,rfl⟩,trivial⟩
      |false=>
       refine bD e4 ?_;(conv=>whnf)
       cases e5:cO op 60 with
       |true=>
        refine dw e5 ?_;(conv=>whnf);exact⟨(),⟨rfl,rfl,rfl,rfl⟩,trivial⟩
       |false=>
        rcases oM e with h|h|h|h|h|h<;>simp_all
 intro _ _;refine iN.fin (ah Tryz.prog) aC (by kernel_rfl) ?_;(conv=>whnf);rcases xs with _|⟨⟨ak,an,at_,aa,ac⟩,_|⟨⟨bk,bn,bt,ba,bc⟩,_|⟨d,xs⟩⟩⟩
 ·conv=>whnf
  cases hF;refine⟨.inl rfl,⟨s6,trivial⟩⟩
 ·conv=>whnf
  cases hF;refine⟨.inl rfl,⟨s6,trivial⟩⟩
 ·conv=>whnf
  replace hF:(match (ak==2)&&(bk==2) with|false=>some (zV,cG)|true=>match cO op 60 with|true=>some (vI 3 (bI (decide (an<bn))),(⟨#[]⟩:ByteArray))|false=>some (oo op an bn))=some R:=hF;have har:=EL op an bn;refine bL (ah _) aC (by kernel_rfl) 2 [0,1,4,6,50,51,52] [4,1000000000] (fun j (_:Unit)=>[.p (.s op),.p (.sl 5 ([.agg [.i .i64 ak,.i .i64 an,.s at_,.sl 5 (bu aa),eP cS ac],.agg [.i .i64 bk,.i .i64 bn,.s bt,.sl 5 (bu ba),eP cS bc]])),.ptr 4 0,.p (.i .i64 2),.p (.sl 5 ([.agg [.i .i64 ak,.i .i64 an,.s at_,.sl 5 (bu aa),eP cS ac],.agg [.i .i64 bk,.i .i64 bn,.s bt,.sl 5 (bu ba),eP cS bc]])),.p (.i .i64 2),.p (.i .i64 (ix j))]) (fun _ _=>[.cells [.p (.i .i64 0),.p (.i .i64 0),.p (.s ⟨#[]⟩),.cu,.p .fW],.store 139 false vS z.1 5 (cC bu z.2)]) (fun j _=>(1≤j→(ak==2)=true)∧(2≤j→(bk==2)=true)) () ⟨rfl,rfl,rfl,rfl⟩ ⟨by omega,by omega⟩ ?_;rintro j _ hj ⟨q1,q2⟩;(conv=>whnf);refine aj ?_ ?_<;>intro h1<;>conv=>whnf
  ·have hj1:j<2:=cm h1 rfl hj (by omega)
   have hj2:j=0∨j=1:=by omega
   rcases hj2 with rfl|rfl
   ·refine bO (x:=.agg [.i .i64 ak,.i .i64 an,.s at_,.sl 5 (bu aa),eP cS ac]) rfl (by omega) ?_
    (conv=>whnf);refine aj ?_ ?_<;>intro g1<;>conv=>whnf
    ·rw[show((ak==2)&&(bk==2))=false from(by rw[show(ak==2)=false by simpa using g1];rfl)]at hF
     cases hF;refine⟨.inl rfl,⟨s6,trivial⟩⟩
    ·exact⟨by omega,(),⟨rfl,rfl,rfl,rfl⟩,⟨fun _=>(by simpa using g1),by omega⟩⟩
   ·refine bO (x:=.agg [.i .i64 bk,.i .i64 bn,.s bt,.sl 5 (bu ba),eP cS bc]) rfl (by omega) ?_
    (conv=>whnf);refine aj ?_ ?_<;>intro g1<;>conv=>whnf
    ·rw[show((ak==2)&&(bk==2))=false from(by rw[show(bk==2)=false by simpa using g1,Bool.and_false])]at hF
     cases hF;refine⟨.inl rfl,⟨s6,trivial⟩⟩
    ·exact⟨by omega,(),⟨rfl,rfl,rfl,rfl⟩,⟨fun _=>q1 (by omega),fun _=>(by simpa using g1)⟩⟩
  have hj1:j=2:=cq h1 rfl hj (by omega);subst hj1;rw[q1 (by omega),q2 (by omega)]at hF
  try dsimp only at hF
  (conv=>whnf);refine bD n1 ?_;(conv=>whnf);refine bD n2 ?_;(conv=>whnf)
  cases n3:cO op 60 with
  |true=>
   rw[n3]at hF;refine dw n3 ?_;(conv=>whnf);refine au (i:=0) (x:=.agg [.i .i64 ak,.i .i64 an,.s at_,.sl 5 (bu aa),eP cS ac]) rfl ?_;(conv=>whnf);refine au (i:=1) (x:=.agg [.i .i64 bk,.i .i64 bn,.s bt,.sl 5 (bu ba),eP cS bc]) rfl ?_;(conv=>whnf);cases hF;refine jA (qd _) ?_;(conv=>whnf);refine ag (.inl (by kernel_rfl)) ?_;(conv=>whnf);refine⟨.inl rfl,⟨s6,trivial⟩⟩
  |false=>
   rw[n3]at hF;refine bD n3 ?_;(conv=>whnf);refine au (i:=0) (x:=.agg [.i .i64 ak,.i .i64 an,.s at_,.sl 5 (bu aa),eP cS ac]) rfl ?_;(conv=>whnf);refine au (i:=1) (x:=.agg [.i .i64 bk,.i .i64 bn,.s bt,.sl 5 (bu ba),eP cS bc]) rfl ?_;(conv=>whnf);cases hF;generalize oo op an bn=q at har;obtain⟨⟨u1,u2,u3,u4,u5⟩,w⟩:=q;rw[eV]at har;refine jA har ?_;(conv=>whnf);refine ag (.inl (by kernel_rfl)) ?_;(conv=>whnf);refine⟨.inl rfl,⟨s6,trivial⟩⟩
 ·conv=>whnf
  cases hF;refine⟨.inl rfl,⟨s6,trivial⟩⟩
theorem OB (z:bf (List Vl)) (op:ByteArray) (e0:cO op 43=false) (e1:cO op 45=false) (e2:cO op 42=false) (e3:cO op 47=false) (e4:cO op 37=false) (e5:cO op 60=false) (e6:cO op 61=true) (xs:List Vl) (R:Vl×ByteArray) (hF:dW op xs=some R):
 av Tryz.prog 255 [.p (.s op),.p (.sl 5 (bu xs))] [(1000000000,oG z)] (.cA [.p (eV R.1),.p (.s R.2)]) [(1000000000,oG z)]:=by
 have e:lN op=false:=by
  unfold lN;simp[e0,e1,e2,e3,e4,e5]
 have n1:(op.toList==HD.toList)=false:=by rw[wC e6];decide +kernel
 have n2:(op.toList==Em.toList)=false:=by rw[wC e6];decide +kernel
 unfold dW at hF;rw[e,e6]at hF;unfold oG
 cases xs with
 |nil=>
  refine av.intro (ah Tryz.prog) aC Tryz.func255 rfl (by rfl) (by kernel_rfl) (by show 2≤_;decide) rfl ?_;(conv=>whnf);refine bD e0 ?_;(conv=>whnf);refine bD e1 ?_;(conv=>whnf);refine bD e2 ?_;(conv=>whnf);refine bD e3 ?_;(conv=>whnf);refine bD e4 ?_;(conv=>whnf);refine bD e5 ?_;(conv=>whnf);refine bD n2 ?_;(conv=>whnf);refine bD n1 ?_;(conv=>whnf);refine dw e6 ?_;(conv=>whnf);cases hF;refine⟨.inl rfl,⟨s6,trivial⟩⟩
 |cons a xs=>
  cases xs with
  |nil=>
   refine av.intro (ah Tryz.prog) aC Tryz.func255 rfl (by rfl) (by kernel_rfl) (by show 2≤_;decide) rfl ?_;(conv=>whnf);refine bD e0 ?_;(conv=>whnf);refine bD e1 ?_;(conv=>whnf);refine bD e2 ?_;(conv=>whnf);refine bD e3 ?_;(conv=>whnf);refine bD e4 ?_;(conv=>whnf);refine bD e5 ?_;(conv=>whnf);refine bD n2 ?_;(conv=>whnf);refine bD n1 ?_;(conv=>whnf);refine dw e6 ?_;(conv=>whnf);cases hF;refine⟨.inl rfl,⟨s6,trivial⟩⟩
  |cons b xs=>
   cases xs with
   |cons d xs=>
    refine av.intro (ah Tryz.prog) aC Tryz.func255 rfl (by rfl) (by kernel_rfl) (by show 2≤_;decide) rfl ?_;(conv=>whnf);refine bD e0 ?_;(conv=>whnf);refine bD e1 ?_;(conv=>whnf);refine bD e2 ?_;(conv=>whnf);refine bD e3 ?_;(conv=>whnf);refine bD e4 ?_;(conv=>whnf);refine bD e5 ?_;(conv=>whnf);refine bD n2 ?_;(conv=>whnf);refine bD n1 ?_;(conv=>whnf);refine dw e6 ?_;(conv=>whnf);cases hF;refine⟨.inl rfl,⟨s6,trivial⟩⟩
   |nil=>
    dsimp only at hF
    cases hs:qV (lE a) a b with
    |none=>rw[hs]at hF;cases hF
    |some q=>
     rw[hs]at hF;cases hF;have hsm:=AF _ a b q hs;have hbl:=qd q.1;obtain⟨ak,an,at_,aa,ac⟩:=a;obtain⟨bk,bn,bt,ba,bc⟩:=b;rw[eV,eV]at hsm;refine av.intro (ah Tryz.prog) aC Tryz.func255 rfl (by rfl) (by kernel_rfl) (by show 2≤_;decide) rfl ?_;(conv=>whnf);refine bD e0 ?_;(conv=>whnf);refine bD e1 ?_;(conv=>whnf);refine bD e2 ?_;(conv=>whnf);refine bD e3 ?_;(conv=>whnf);refine bD e4 ?_;(conv=>whnf);refine bD e5 ?_;(conv=>whnf);refine bD n2 ?_;(conv=>whnf);refine bD n1 ?_;(conv=>whnf);refine dw e6 ?_;(conv=>whnf);refine au (i:=0) (x:=.agg [.i .i64 ak,.i .i64 an,.s at_,.sl 5 (bu aa),eP cS ac]) rfl ?_;(conv=>whnf);refine au (i:=1) (x:=.agg [.i .i64 bk,.i .i64 bn,.s bt,.sl 5 (bu ba),eP cS bc]) rfl ?_;(conv=>whnf);refine jA hsm ?_;(conv=>whnf);refine ag (.inl (by kernel_rfl)) ?_;(conv=>whnf);refine jA hbl ?_;(conv=>whnf);refine⟨.inl rfl,⟨s6,trivial⟩⟩
theorem OF (z:bf (List Vl)) (op:ByteArray) (e0:cO op 43=false) (e1:cO op 45=false) (e2:cO op 42=false) (e3:cO op 47=false) (e4:cO op 37=false) (e5:cO op 60=false) (e6:cO op 61=false) (n2:(op.toList==Em.toList)=true) (xs:List Vl) (R:Vl×ByteArray) (hF:dW op xs=some R):
 av Tryz.prog 255 [.p (.s op),.p (.sl 5 (bu xs))] [(1000000000,oG z)] (.cA [.p (eV R.1),.p (.s R.2)]) [(1000000000,oG z)]:=by
 have e:lN op=false:=by
  unfold lN;rw[e0,e1,e2,e3,e4,e5];rfl
 have n1:(op.toList==HD.toList)=false:=by rw[eq_of_beq n2];decide +kernel
 unfold dW at hF;rw[e,e6,n2]at hF;unfold oG;rcases xs with _|⟨⟨ak,an,at_,aa,ac⟩,_|⟨⟨bk,bn,bt,ba,bc⟩,_|⟨d,xs⟩⟩⟩
 ·refine av.intro (ah Tryz.prog) aC Tryz.func255 rfl (by rfl) (by kernel_rfl) (by show 2≤_;decide) rfl ?_
  (conv=>whnf);refine bD e0 ?_;(conv=>whnf);refine bD e1 ?_;(conv=>whnf);refine bD e2 ?_;(conv=>whnf);refine bD e3 ?_;(conv=>whnf);refine bD e4 ?_;(conv=>whnf);refine bD e5 ?_;(conv=>whnf);refine dw n2 ?_;(conv=>whnf);cases hF;refine⟨.inl rfl,⟨s6,trivial⟩⟩
 ·refine av.intro (ah Tryz.prog) aC Tryz.func255 rfl (by rfl) (by kernel_rfl) (by show 2≤_;decide) rfl ?_
  (conv=>whnf);refine bD e0 ?_;(conv=>whnf);refine bD e1 ?_;(conv=>whnf);refine bD e2 ?_;(conv=>whnf);refine bD e3 ?_;(conv=>whnf);refine bD e4 ?_;(conv=>whnf);refine bD e5 ?_;(conv=>whnf);refine dw n2 ?_;(conv=>whnf);cases hF;refine⟨.inl rfl,⟨s6,trivial⟩⟩
 ·refine av.intro (ah Tryz.prog) aC Tryz.func255 rfl (by rfl) (by kernel_rfl) (by show 2≤_;decide) rfl ?_
  (conv=>whnf);refine bD e0 ?_;(conv=>whnf);refine bD e1 ?_;(conv=>whnf);refine bD e2 ?_;(conv=>whnf);refine bD e3 ?_;(conv=>whnf);refine bD e4 ?_;(conv=>whnf);refine bD e5 ?_;(conv=>whnf);refine dw n2 ?_;(conv=>whnf);replace hF:(match (ak==4)&&(bk==4) with|false=>some (zV,cG)|true=>match Nat.ble (at_.size+bt.size) 9223372036854775807 with|false=>none|true=>match decide (((at_++bt).size:Int)>64) with|true=>some (zV,kQ)|false=>some (Vl.mk 4 0 (at_++bt) [] none,(⟨#[]⟩:ByteArray)))=some R:=hF;refine bL (ah _) aC (by kernel_rfl) 2 [0,1,4,6,50,51,52] [4,1000000000] (fun j (_:Unit)=>[.p (.s op),.p (.sl 5 ([.agg [.i .i64 ak,.i .i64 an,.s at_,.sl 5 (bu aa),eP cS ac],.agg [.i .i64 bk,.i .i64 bn,.s bt,.sl 5 (bu ba),eP cS bc]])),.ptr 4 0,.p (.i .i64 4),.p (.sl 5 ([.agg [.i .i64 ak,.i .i64 an,.s at_,.sl 5 (bu aa),eP cS ac],.agg [.i .i64 bk,.i .i64 bn,.s bt,.sl 5 (bu ba),eP cS bc]])),.p (.i .i64 2),.p (.i .i64 (ix j))]) (fun _ _=>[.cells [.p (.i .i64 0),.p (.i .i64 0),.p (.s ⟨#[]⟩),.cu,.p .fW],.store 139 false vS z.1 5 (cC bu z.2)]) (fun j _=>(1≤j→(ak==4)=true)∧(2≤j→(bk==4)=true)) () ⟨rfl,rfl,rfl,rfl⟩ ⟨by omega,by omega⟩ ?_;rintro j _ hj ⟨q1,q2⟩;(conv=>whnf);refine aj ?_ ?_<;>intro h1<;>conv=>whnf
  ·have hj1:j<2:=cm h1 rfl hj (by omega)
   have hj2:j=0∨j=1:=by omega
   rcases hj2 with rfl|rfl
   ·refine bO (x:=.agg [.i .i64 ak,.i .i64 an,.s at_,.sl 5 (bu aa),eP cS ac]) rfl (by omega) ?_
    (conv=>whnf);refine aj ?_ ?_<;>intro g1<;>conv=>whnf
    ·rw[show((ak==4)&&(bk==4))=false from(by rw[show(ak==4)=false by simpa using g1];rfl)]at hF
     cases hF;refine⟨.inl rfl,⟨s6,trivial⟩⟩
    ·exact⟨by omega,(),⟨rfl,rfl,rfl,rfl⟩,⟨fun _=>(by simpa using g1),by omega⟩⟩
   ·refine bO (x:=.agg [.i .i64 bk,.i .i64 bn,.s bt,.sl 5 (bu ba),eP cS bc]) rfl (by omega) ?_
    (conv=>whnf);refine aj ?_ ?_<;>intro g1<;>conv=>whnf
    ·rw[show((ak==4)&&(bk==4))=false from(by rw[show(bk==4)=false by simpa using g1,Bool.and_false])]at hF
     cases hF;refine⟨.inl rfl,⟨s6,trivial⟩⟩
    ·exact⟨by omega,(),⟨rfl,rfl,rfl,rfl⟩,⟨fun _=>q1 (by omega),fun _=>(by simpa using g1)⟩⟩
  have hj1:j=2:=cq h1 rfl hj (by omega);subst hj1;rw[q1 (by omega),q2 (by omega)]at hF
  try dsimp only at hF
  (conv=>whnf);refine bD n1 ?_;(conv=>whnf);refine dw n2 ?_;(conv=>whnf);refine au (i:=0) (x:=.agg [.i .i64 ak,.i .i64 an,.s at_,.sl 5 (bu aa),eP cS ac]) rfl ?_;(conv=>whnf);refine au (i:=1) (x:=.agg [.i .i64 bk,.i .i64 bn,.s bt,.sl 5 (bu ba),eP cS bc]) rfl ?_;(conv=>whnf)
  cases hsz:Nat.ble (at_.size+bt.size) 9223372036854775807 with
  |false=>rw[hsz]at hF;cases hF
  |true=>
  rw[hsz]at hF;refine ag (Nat.le_of_ble_eq_true hsz) ?_;(conv=>whnf);refine ag (.inl (by kernel_rfl)) ?_;(conv=>whnf);refine aj ?_ ?_<;>intro h2<;>conv=>whnf
  ·rw[show decide (((at_++bt).size:Int)>64)=true from h2]at hF
   cases hF;refine⟨.inl rfl,⟨s6,trivial⟩⟩
  ·rw[show decide (((at_++bt).size:Int)>64)=false from h2]at hF
   cases hF;refine⟨.inl rfl,⟨s6,trivial⟩⟩
 ·refine av.intro (ah Tryz.prog) aC Tryz.func255 rfl (by rfl) (by kernel_rfl) (by show 2≤_;decide) rfl ?_
  (conv=>whnf);refine bD e0 ?_;(conv=>whnf);refine bD e1 ?_;(conv=>whnf);refine bD e2 ?_;(conv=>whnf);refine bD e3 ?_;(conv=>whnf);refine bD e4 ?_;(conv=>whnf);refine bD e5 ?_;(conv=>whnf);refine dw n2 ?_;(conv=>whnf);cases hF;refine⟨.inl rfl,⟨s6,trivial⟩⟩
theorem Nr (z:bf (List Vl)) (op:ByteArray) (e0:cO op 43=false) (e1:cO op 45=false) (e2:cO op 42=false) (e3:cO op 47=false) (e4:cO op 37=false) (e5:cO op 60=false) (e6:cO op 61=false) (n2:(op.toList==Em.toList)=false) (xs:List Vl) (R:Vl×ByteArray) (hF:dW op xs=some R):
 av Tryz.prog 255 [.p (.s op),.p (.sl 5 (bu xs))] [(1000000000,oG z)] (.cA [.p (eV R.1),.p (.s R.2)]) [(1000000000,oG z)]:=by
 have e:lN op=false:=by
  unfold lN;rw[e0,e1,e2,e3,e4,e5];rfl
 unfold dW at hF;rw[e,e6,n2]at hF;unfold oG
 cases n1:op.toList==HD.toList with
 |false=>
  rw[n1]at hF;cases hF;refine av.intro (ah Tryz.prog) aC Tryz.func255 rfl (by rfl) (by kernel_rfl) (by show 2≤_;decide) rfl ?_;(conv=>whnf);refine bD e0 ?_;(conv=>whnf);refine bD e1 ?_;(conv=>whnf);refine bD e2 ?_;(conv=>whnf);refine bD e3 ?_;(conv=>whnf);refine bD e4 ?_;(conv=>whnf);refine bD e5 ?_;(conv=>whnf);refine bD n2 ?_;(conv=>whnf);refine bD n1 ?_;(conv=>whnf);refine bD e6 ?_;(conv=>whnf);refine⟨.inl rfl,⟨s6,trivial⟩⟩
 |true=>
  rw[n1]at hF;rcases xs with _|⟨⟨ak,an,at_,aa,ac⟩,_|⟨d,xs⟩⟩
  ·refine av.intro (ah Tryz.prog) aC Tryz.func255 rfl (by rfl) (by kernel_rfl) (by show 2≤_;decide) rfl ?_
   (conv=>whnf);refine bD e0 ?_;(conv=>whnf);refine bD e1 ?_;(conv=>whnf);refine bD e2 ?_;(conv=>whnf);refine bD e3 ?_;(conv=>whnf);refine bD e4 ?_;(conv=>whnf);refine bD e5 ?_;(conv=>whnf);refine bD n2 ?_;(conv=>whnf);refine dw n1 ?_;(conv=>whnf);cases hF;refine⟨.inl rfl,⟨s6,trivial⟩⟩
  ·replace hF:(match ak==3 with|false=>some (zV,cG)|true=>some (vI 3 (bI (an==0)),(⟨#[]⟩:ByteArray)))=some R:=hF
   have hbl:=qd (an==0);refine av.intro (ah Tryz.prog) aC Tryz.func255 rfl (by rfl) (by kernel_rfl) (by show 2≤_;decide) rfl ?_;(conv=>whnf);refine bD e0 ?_;(conv=>whnf);refine bD e1 ?_;(conv=>whnf);refine bD e2 ?_;(conv=>whnf);refine bD e3 ?_;(conv=>whnf);refine bD e4 ?_;(conv=>whnf);refine bD e5 ?_;(conv=>whnf);refine bD n2 ?_;(conv=>whnf);refine dw n1 ?_;(conv=>whnf);refine bL (ah _) aC (by kernel_rfl) 1 [0,1,4,6,50,51,52] [4,1000000000] (fun j (_:Unit)=>[.p (.s op),.p (.sl 5 ([.agg [.i .i64 ak,.i .i64 an,.s at_,.sl 5 (bu aa),eP cS ac]])),.ptr 4 0,.p (.i .i64 3),.p (.sl 5 ([.agg [.i .i64 ak,.i .i64 an,.s at_,.sl 5 (bu aa),eP cS ac]])),.p (.i .i64 1),.p (.i .i64 (ix j))]) (fun _ _=>[.cells [.p (.i .i64 0),.p (.i .i64 0),.p (.s ⟨#[]⟩),.cu,.p .fW],.store 139 false vS z.1 5 (cC bu z.2)]) (fun j _=>(1≤j→(ak==3)=true)) () ⟨rfl,rfl,rfl,rfl⟩ (by omega) ?_;rintro j _ hj q1;(conv=>whnf);refine aj ?_ ?_<;>intro h1<;>conv=>whnf
   ·have hj1:j<1:=cm h1 rfl hj (by omega)
    have hj2:j=0:=by omega
    subst hj2;refine bO (x:=.agg [.i .i64 ak,.i .i64 an,.s at_,.sl 5 (bu aa),eP cS ac]) rfl (by omega) ?_;(conv=>whnf);refine aj ?_ ?_<;>intro g1<;>conv=>whnf
    ·rw[show(ak==3)=false by simpa using g1]at hF
     cases hF;refine⟨.inl rfl,⟨s6,trivial⟩⟩
    ·exact⟨by omega,(),⟨rfl,rfl,rfl,rfl⟩,fun _=>(by simpa using g1)⟩
   have hj1:j=1:=cq h1 rfl hj (by omega);subst hj1;rw[q1 (by omega)]at hF;cases hF;(conv=>whnf);refine dw n1 ?_;(conv=>whnf);refine au (i:=0) (x:=.agg [.i .i64 ak,.i .i64 an,.s at_,.sl 5 (bu aa),eP cS ac]) rfl ?_;(conv=>whnf);refine jA hbl ?_;(conv=>whnf);refine⟨.inl rfl,⟨s6,trivial⟩⟩
  ·refine av.intro (ah Tryz.prog) aC Tryz.func255 rfl (by rfl) (by kernel_rfl) (by show 2≤_;decide) rfl ?_
   (conv=>whnf);refine bD e0 ?_;(conv=>whnf);refine bD e1 ?_;(conv=>whnf);refine bD e2 ?_;(conv=>whnf);refine bD e3 ?_;(conv=>whnf);refine bD e4 ?_;(conv=>whnf);refine bD e5 ?_;(conv=>whnf);refine bD n2 ?_;(conv=>whnf);refine dw n1 ?_;(conv=>whnf);cases hF;refine⟨.inl rfl,⟨s6,trivial⟩⟩
theorem tf (z:bf (List Vl)) (op:ByteArray) (xs:List Vl) (R:Vl×ByteArray) (hl:xs.length≤2000001) (hF:dW op xs=some R):
 av Tryz.prog 255 [.p (.s op),.p (.sl 5 (bu xs))] [(1000000000,oG z)] (.cA [.p (eV R.1),.p (.s R.2)]) [(1000000000,oG z)]:=by
 cases e:lN op with
 |true=>exact Qe z op e xs R hl hF
 |false=>
  cases e6:cO op 61 with
  |true=>
   have h:=e;unfold lN at h;simp only[Bool.or_eq_false_iff]at h;obtain⟨⟨⟨⟨⟨e0,e1⟩,e2⟩,e3⟩,e4⟩,e5⟩:=h;exact OB z op e0 e1 e2 e3 e4 e5 e6 xs R hF
  |false=>
   have h:=e;unfold lN at h;simp only[Bool.or_eq_false_iff]at h;obtain⟨⟨⟨⟨⟨e0,e1⟩,e2⟩,e3⟩,e4⟩,e5⟩:=h
   cases n2:op.toList==Em.toList with
   |true=>exact OF z op e0 e1 e2 e3 e4 e5 e6 n2 xs R hF
   |false=>exact Nr z op e0 e1 e2 e3 e4 e5 e6 n2 xs R hF
end MN
end
section
open Go Go.AM Go.Proofs TK
set_option maxRecDepth 100000
namespace MN
def PI (R:Bool×(bf Sc×Option Nat)):AV:=.cA [.p (eP sS R.2.2),.p (.b R.1)]
noncomputable def QJ:Nat→Option TI:=hint (jQ Tryz.prog) 218 [1000023]
theorem Nt:bz Tryz.prog QJ:=(ah Tryz.prog).hint _ _
theorem tL:∀(n:Nat) (p:TR.Pt) (v:Vl) (z:bf Sc×Option Nat) (R:Bool×(bf Sc×Option Nat)),mB n p v z=some R→
 av Tryz.prog 236 [.p (TR.eP p),.p (eV v),.p (eP sS z.2)] [(1000000000,zX sS z.1)] (PI R) [(1000000000,zX sS R.2.1)]
 |0,_,_,_,_,hF=>by cases hF
 |n+1,p,v,z,R,hF=>by
  have ih:=tL n;obtain⟨pk,pn,pt,pa⟩:=p;obtain⟨vk,vn,vt,va,vc⟩:=v;obtain⟨⟨nx,M⟩,s⟩:=z;unfold mB at hF;dsimp only[TR.Pt.kind,TR.Pt.text,TR.Pt.args,Nx,Vl.kind,Vl.num,Vl.text,Vl.args]at hF;rw[TR.eP,eV];unfold zX PI at *;dsimp only at *;refine av.intro Nt aC Tryz.func236 rfl (by rfl) (by kernel_rfl) (by show 3≤_;decide) rfl ?_;(conv=>whnf);refine aj ?_ ?_<;>intro h1<;>conv=>whnf
  ·rw[show(pk==1)=true from h1]at hF
   cases hF;cases s
   all_goals
    (conv=>whnf);refine⟨.inl rfl,⟨s6,trivial⟩⟩
  rw[show(pk==1)=false from h1]at hF;dsimp only at hF;refine aj ?_ ?_<;>intro h2<;>conv=>whnf
  ·rw[show(pk==2)=true from h2]at hF
   cases hF;cases s
   all_goals
    (conv=>whnf);refine⟨.inl rfl,⟨s6,trivial⟩⟩
  rw[show(pk==2)=false from h2]at hF;dsimp only at hF;refine aj ?_ ?_<;>intro h3<;>conv=>whnf
  ·rw[show(pk==3)=true from h3]at hF
   cases hF;refine aj ?_ ?_<;>intro g1<;>conv=>whnf
   ·rw[show(vk==2)=true from g1,Bool.true_and]
    refine ag (.inl (by kernel_rfl)) ?_;(conv=>whnf);cases s
    all_goals
     (conv=>whnf);refine⟨.inl rfl,⟨s6,trivial⟩⟩
   ·rw[show(vk==2)=false from g1,Bool.false_and]
    refine ag (.inl (by kernel_rfl)) ?_;(conv=>whnf);cases s
    all_goals
     (conv=>whnf);refine⟨.inl rfl,⟨s6,trivial⟩⟩
  rw[show(pk==3)=false from h3]at hF;dsimp only at hF;refine aj ?_ ?_<;>intro h4<;>conv=>whnf
  ·rw[show(pk==4)=true from h4]at hF
   cases hF;refine aj ?_ ?_<;>intro g1<;>conv=>whnf
   ·rw[show(vk==3)=true from g1,Bool.true_and]
    refine ag (.inl (by kernel_rfl)) ?_;(conv=>whnf);cases s
    all_goals
     (conv=>whnf);refine⟨.inl rfl,⟨s6,trivial⟩⟩
   ·rw[show(vk==3)=false from g1,Bool.false_and]
    refine ag (.inl (by kernel_rfl)) ?_;(conv=>whnf);cases s
    all_goals
     (conv=>whnf);refine⟨.inl rfl,⟨s6,trivial⟩⟩
  rw[show(pk==4)=false from h4]at hF;dsimp only at hF;refine aj ?_ ?_<;>intro h5<;>conv=>whnf
  ·rw[show(pk==5)=true from h5]at hF
   cases hF;refine aj ?_ ?_<;>intro g1<;>conv=>whnf
   ·rw[show(vk==4)=true from g1,Bool.true_and]
    refine ag (.inl (by kernel_rfl)) ?_;(conv=>whnf);cases s
    all_goals
     (conv=>whnf);refine⟨.inl rfl,⟨s6,trivial⟩⟩
   ·rw[show(vk==4)=false from g1,Bool.false_and]
    refine ag (.inl (by kernel_rfl)) ?_;(conv=>whnf);cases s
    all_goals
     (conv=>whnf);refine⟨.inl rfl,⟨s6,trivial⟩⟩
  rw[show(pk==5)=false from h5]at hF;dsimp only at hF;refine aj ?_ ?_<;>intro h6<;>conv=>whnf
  case refine_2=>
   rw[show(pk==6)=false from h6]at hF;cases hF;cases s
   all_goals
    (conv=>whnf);refine⟨.inl rfl,⟨s6,trivial⟩⟩
  rw[show(pk==6)=true from h6]at hF;dsimp only at hF;refine aj ?_ ?_<;>intro g1<;>conv=>whnf
  ·rw[show(!(vk==5)||!(jV vt pt)||!(Nat.beq va.length pa.length))=true from(by rw[show(!(vk==5))=true from g1];rfl)]at hF
   cases hF;cases s
   all_goals
    (conv=>whnf);refine⟨.inl rfl,⟨s6,trivial⟩⟩
  have g1:(!(vk==5))=false:=g1;refine aj ?_ ?_<;>intro g2<;>conv=>whnf
  ·rw[show(!(vk==5)||!(jV vt pt)||!(Nat.beq va.length pa.length))=true from(by rw[g1,show(!(jV vt pt))=true from g2];rfl)]at hF
   cases hF;cases s
   all_goals
    (conv=>whnf);refine⟨.inl rfl,⟨s6,trivial⟩⟩
  have g2:(!(jV vt pt))=false:=g2;have hvl:(bu va).length=va.length:=by rw[aR];simp
  have hpl:(TR.oA pa).length=pa.length:=TR.gT pa;refine aj ?_ ?_<;>intro g3<;>conv=>whnf
  ·rw[show(!(vk==5)||!(jV vt pt)||!(Nat.beq va.length pa.length))=true from(by rw[g1,g2,show Nat.beq va.length pa.length=false from by cases hq:Nat.beq va.length pa.length with|false=>rfl|true=>have:=Nat.eq_of_beq_eq_true hq;rw[hvl,hpl,this]at g3;simp at g3];rfl)]at hF
   cases hF;cases s
   all_goals
    (conv=>whnf);refine⟨.inl rfl,⟨s6,trivial⟩⟩
  have g3:Nat.beq va.length pa.length=true:=by
   have:va.length=pa.length:=by rw[hvl,hpl]at g3;simp at g3;omega
   rw[this];exact Nat.beq_refl _
  rw[show(!(vk==5)||!(jV vt pt)||!(Nat.beq va.length pa.length))=false by rw[g1,g2,g3];rfl]at hF;dsimp only at hF
  cases hll:Nat.ble pa.length 2000000 with
  |false=>rw[hll]at hF;cases hF
  |true=>
   rw[hll]at hF;dsimp only at hF;have hll:=Nat.le_of_ble_eq_true hll;have hvp:=Nat.eq_of_beq_eq_true g3;refine bL (ah _) aC (by kernel_rfl) pa.length [2,3,4,86,87,88] [3,4,1000000000] (fun j (z:bf Sc×Option Nat)=>[.p (eP sS z.2),.ptr 3 0,.ptr 4 0,.p (.sl 4 (TR.oA pa)),.p (.i .i64 (TR.oA pa).length),.p (.i .i64 (ix j))]) (fun _ z=>[.cells [.p (.i .i64 pk),.p (.i .i64 pn),.p (.s pt),.p (.sl 4 (TR.oA pa))],.cells [.p (.i .i64 vk),.p (.i .i64 vn),.p (.s vt),.p (.sl 5 (bu va)),.p (eP cS vc)],.store 218 true sS z.1.1 7 (cC (OZ sS) z.1.2)]) (fun j z=>pM (mB n) (pa.drop j) (va.drop j) z=some R) ((nx,M),s) ⟨rfl,rfl,rfl,rfl⟩ hF ?_;rintro j ⟨⟨nx,M⟩,s⟩ hj hQ;(conv=>whnf);refine aj ?_ ?_<;>intro h1<;>conv=>whnf
   ·have hj1:=cm h1 (by rw[hpl]) hj (by omega)
    obtain⟨a,ha⟩:∃a,pa[j]?=some a:=⟨_,List.getElem?_eq_getElem hj1⟩
    obtain⟨u,hu⟩:∃u,va[j]?=some u:=⟨_,List.getElem?_eq_getElem (by omega)⟩
    rw[drop_cons ha,drop_cons hu,pM]at hQ
    cases hm:mB n a u ((nx,M),s) with
    |none=>rw[hm]at hQ;cases hQ
    |some q=>
     rw[hm]at hQ;have hi:=ih a u ((nx,M),s) q hm;obtain⟨ak,an,at_,aa⟩:=a;obtain⟨uk,un,ut,ua,uc⟩:=u;obtain⟨b,⟨nx2,M2⟩,s2⟩:=q;rw[TR.eP,eV]at hi;dsimp only at hi hQ;cases s
     all_goals
      cases s2 with
      |none=>
       refine bO (x:=.agg [.i .i64 ak,.i .i64 an,.s at_,.sl 4 (TR.oA aa)]) (TR.tC ha) (by omega) ?_;(conv=>whnf);refine bO (x:=.agg [.i .i64 uk,.i .i64 un,.s ut,.sl 5 (bu ua),eP cS uc]) (by rw[aR];simp[hu,eV]) (by omega) ?_;(conv=>whnf);refine bh [1000000000] 400 hi ?_;(conv=>whnf)
       cases b with
       |false=>
        cases hQ;(conv=>whnf);refine ag (.inl (by kernel_rfl)) ?_;(conv=>whnf);refine⟨.inl rfl,⟨s6,trivial⟩⟩
       |true=>
        (conv=>whnf);refine ag (.inl (by kernel_rfl)) ?_;(conv=>whnf);exact⟨hj1,((nx2,M2),none),⟨rfl,rfl,rfl,rfl⟩,hQ⟩
      |some s2=>
       refine bO (x:=.agg [.i .i64 ak,.i .i64 an,.s at_,.sl 4 (TR.oA aa)]) (TR.tC ha) (by omega) ?_;(conv=>whnf);refine bO (x:=.agg [.i .i64 uk,.i .i64 un,.s ut,.sl 5 (bu ua),eP cS uc]) (by rw[aR];simp[hu,eV]) (by omega) ?_;(conv=>whnf);refine bh [1000000000] 400 hi ?_;(conv=>whnf)
       cases b with
       |false=>
        cases hQ;(conv=>whnf);refine ag (.inl (by kernel_rfl)) ?_;(conv=>whnf);refine⟨.inl rfl,⟨s6,trivial⟩⟩
       |true=>
        (conv=>whnf);refine ag (.inl (by kernel_rfl)) ?_;(conv=>whnf);exact⟨hj1,((nx2,M2),(some s2)),⟨rfl,rfl,rfl,rfl⟩,hQ⟩
   ·have h1:=cq h1 (by rw[hpl]) hj (by omega)
    subst h1;rw[List.drop_length]at hQ
    cases s with
    |none=>
     cases hQ;(conv=>whnf);refine⟨.inl rfl,⟨s6,trivial⟩⟩
    |some s=>
     cases hQ;(conv=>whnf);refine⟨.inl rfl,⟨s6,trivial⟩⟩
end MN
end
section
open Go Go.AM Go.Proofs TK
set_option maxRecDepth 100000
namespace MN
theorem Hu {l:List Ar} {j:Nat} {a:Ar} {k n:Int} {t:ByteArray} {xs:List TR.Pt} (h:l[j]?=some a) (hp:a.pat=.mk k n t xs):(Fm l)[j]?=some (.agg [.i .i64 k,.i .i64 n,.s t,.sl 4 (TR.oA xs),.bH nS a.body]):=by
 unfold Fm;rw[List.getElem?_map,h];obtain⟨p,b⟩:=a;dsimp only at hp;subst hp;rfl
theorem z7 (K:Ks) (zr:bf Rn) (k:Nat) (r:Rn) (f:Fr) (v:Vl) (hr:aK k zr.2=some r) (S:Ss) (R:Bool×Ss×Rn) (hF:oB K S r f v=some R):
 av Tryz.prog 232 [.p (.bH rS k),.p (.agg (dX f)),.p (eV v)] (hA K S zr) (.p (.b R.1)) (hA K R.2.1 (zr.1,match R.1 with|true=>aW k R.2.2 zr.2|false=>zr.2)):=by
 have hev:=fun j s=>jr zr k j f s r hr;have hmt:=fun p=>tL (TR.wP p) p;obtain⟨f1,f2,f3,f4,f5⟩:=f;obtain⟨vk,vn,vt,va,vc⟩:=v;obtain⟨So,Ssc,Sv,Sf,Sc0,Sg0⟩:=S;unfold oB dA at hF;dsimp only at hF
 cases f1 with
 |none=>cases hF
 |some kn=>
  dsimp only at hF
  cases hn:aK kn K.n.2 with
  |none=>rw[hn]at hF;cases hF
  |some n=>
   rw[hn]at hF;dsimp only at hF
   cases hal:vg K n with
   |none=>rw[hal]at hF;cases hF
   |some l=>
    rw[hal]at hF;dsimp only at hF;obtain⟨n1,n2,n3,n4,n5,n6,n7,n8,n9⟩:=n;unfold hA iE CH iH xS K8 zX oG J9 kH at *;unfold dX at *;dsimp only at *;unfold vg at hal;dsimp only at hal;rw[eV]
    cases n6 with
    |none=>
     cases hal;cases hF;refine av.intro (ah Tryz.prog) aC Tryz.func232 rfl (by rfl) (by kernel_rfl) (by show 3≤_;decide) rfl ?_;(conv=>whnf);refine bC dc hn rfl ?_;(conv=>whnf);refine bL (ah _) aC (by kernel_rfl) 0 [15,16,17] iA (fun j (_:Unit)=>[.p .sj,.p (.i .i64 0),.p (.i .i64 (ix j))]) (fun _ _=>B5 K ⟨So,Ssc,Sv,Sf,Sc0,Sg0⟩ zr) (fun _ _=>True) () ⟨rfl,rfl,rfl,rfl⟩ trivial ?_;rintro j _ hj -;(conv=>whnf);refine aj ?_ ?_<;>intro h1<;>conv=>whnf
     ·have:j=0:=by omega
      subst this;cases h1
     ·refine⟨.inl rfl,⟨s6,s6,s6,s6,s6,s6,s6,s6,s6,s6,s6,s6,s6,s6,s6,s6,trivial⟩⟩
    |some q=>
     obtain⟨q1,q2⟩:=q;dsimp only at hal
     cases hlk:aK q1 K.b.2 with
     |none=>rw[hlk]at hal;cases hal
     |some L=>
      rw[hlk]at hal;dsimp only at hal
      cases hg:Nat.ble q2 L.length&&Nat.ble q2 2000000 with
      |false=>rw[hg]at hal;cases hal
      |true=>
       rw[hg]at hal;cases hal;rw[Bool.and_eq_true]at hg;have hg1:=Nat.le_of_ble_eq_true hg.1;have hg2:=Nat.le_of_ble_eq_true hg.2;refine av.intro (ah Tryz.prog) aC Tryz.func232 rfl (by rfl) (by kernel_rfl) (by show 3≤_;decide) rfl ?_;(conv=>whnf);refine bC dc hn rfl ?_;(conv=>whnf);refine bL (ah _) aC (by kernel_rfl) q2 [0,4,5,15,16,17] (4::5::iA) (fun j (_:bf Sc)=>[.p (.bH rS k),.ptr 4 0,.ptr 5 0,.p (.jR bS q1 q2),.p (.i .i64 q2),.p (.i .i64 (ix j))]) (fun _ s=>.cells [.p (.bH nS kn),.p (eP sS f2),.p (mJ f3),.p (.i .i64 f4),.p (.b f5)]::.cells [.p (.i .i64 vk),.p (.i .i64 vn),.p (.s vt),.p (.sl 5 (bu va)),.p (eP cS vc)]::B5 K ⟨So,s,Sv,Sf,Sc0,Sg0⟩ zr) (fun j s=>mj ⟨some kn,f2,f3,f4,f5⟩ (.mk vk vn vt va vc) ((L.take q2).drop j) ⟨So,s,Sv,Sf,Sc0,Sg0⟩ r=some R) Ssc ⟨rfl,rfl,rfl,rfl⟩ hF ?_;rintro j s hj hQ;(conv=>whnf);refine aj ?_ ?_<;>intro h1<;>conv=>whnf
       ·have hj1:=cm h1 rfl hj (by omega)
        have hjl:(L.take q2)[j]?=L[j]?:=List.getElem?_take_of_lt hj1;obtain⟨a,ha⟩:∃a,L[j]?=some a:=⟨_,List.getElem?_eq_getElem (by omega)⟩
        rw[drop_cons (hjl.trans ha),mj]at hQ;have hji:(ix j).toNat=j:=by rw[nq (by omega)];simp
        refine ag ⟨by rw[nq (by omega)];omega,by rw[hji];exact hj1⟩ ?_;rw[hji]
        cases hm:mB (TR.wP a.pat) a.pat (.mk vk vn vt va vc) (s,f2) with
        |none=>dsimp only at hQ;rw[hm]at hQ;cases hQ
        |some q=>
         dsimp only at hQ;rw[hm]at hQ;have hmt:=hmt a.pat (.mk vk vn vt va vc) (s,f2) q hm;obtain⟨⟨ak,an,at_,aa⟩,ab⟩:=a;obtain⟨b,s2,w⟩:=q;have hev:=hev ab w;dsimp only at hmt hQ;rw[TR.eP,eV]at hmt;unfold PI at hmt;dsimp only at hmt
         cases b with
         |false=>
          cases w
          all_goals
           (conv=>whnf);refine ag ⟨rfl,by decide,.inr rfl⟩ ?_;refine⟨_,aq hlk,?_⟩;refine au (i:=j) (x:=.agg [.i .i64 ak,.i .i64 an,.s at_,.sl 4 (TR.oA aa),.bH nS ab]) (Hu ha rfl) ?_;(conv=>whnf);refine bh [1000000005] 400 hmt ?_;(conv=>whnf);exact⟨hj1,s2,⟨rfl,rfl,rfl,rfl⟩,hQ⟩
         |true=>
          cases hQ;cases w
          all_goals
           (conv=>whnf);refine ag ⟨rfl,by decide,.inr rfl⟩ ?_;refine⟨_,aq hlk,?_⟩;refine au (i:=j) (x:=.agg [.i .i64 ak,.i .i64 an,.s at_,.sl 4 (TR.oA aa),.bH nS ab]) (Hu ha rfl) ?_;(conv=>whnf);refine bh [1000000005] 400 hmt ?_;(conv=>whnf);refine bh [1000000000] 400 hev ?_;(conv=>whnf);refine⟨.inl rfl,⟨s6,s6,s6,s6,s6,s6,s6,s6,s6,s6,s6,s6,s6,s6,s6,s6,trivial⟩⟩
       ·have h1:=cq h1 rfl hj (by omega)
        subst h1;rw[List.drop_eq_nil_of_le (by rw[List.length_take];omega)]at hQ;cases hQ;refine⟨.inl rfl,⟨s6,s6,s6,s6,s6,s6,s6,s6,s6,s6,s6,s6,s6,s6,s6,s6,trivial⟩⟩
end MN
end
section
open Go Go.AM Go.Proofs TK
set_option maxRecDepth 100000
namespace MN
theorem iu {α:Type} {k:Nat} {x:α}:∀{M:List (Nat×α)},aK k M=some x→aW k x M=M
 | [],h=>by cases h
 |(a,y)::r,h=>by
  rw[aK]at h;rw[aW]
  cases hb:Nat.beq a k with
  |true=>rw[hb]at h;cases h;rfl
  |false=>rw[hb]at h;dsimp only at h ⊢;rw[iu h]
theorem Gs {f:Fr} {v:Vl} {r S2 r2}:∀{l:List Ar} {S:Ss},mj f v l S r=some (false,S2,r2)→r2=r
 | [],_,h=>by cases h;rfl
 |a::l,S,h=>by
  rw[mj]at h;split at h
  ·cases h
  ·cases h
  ·exact Gs h
theorem GG {K:Ks} {S S2:Ss} {r r2:Rn} {f:Fr} {v:Vl} (h:oB K S r f v=some (false,S2,r2)):r2=r:=by
 unfold oB at h;split at h
 ·cases h
 ·split at h
  ·cases h
  ·exact Gs h
theorem Fb (K:Ks) (S:Ss) (zr:bf Rn) (k:Nat) (r:Rn) (f:Fr) (xs:List Vl) (R:Ss×Rn) (hr:aK k zr.2=some r) (hf:f.vals=.nA xs) (hF:kA K S r f xs=some R):
 av Tryz.prog 246 [.p (.bH rS k),.p (.agg (dX f))] (hA K S zr) (.cA []) (hA K R.1 (zr.1,aW k R.2 zr.2)):=by
 unfold kA at hF
 cases xs with
 |nil=>cases hF
 |cons v xs=>
  try dsimp only at hF
  cases ht:oB K S r f v with
  |none=>rw[ht]at hF;cases hF
  |some q=>
   rw[ht]at hF;have htk:=z7 K zr k r f v hr S q ht;obtain⟨b,S2,r2⟩:=q;obtain⟨f1,f2,f3,f4,f5⟩:=f;obtain⟨vk,vn,vt,va,vc⟩:=v;dsimp only at hf;subst hf
   cases b with
   |true=>
    cases hF;dsimp only at htk;unfold hA dX at *;rw[eV]at htk;dsimp only[mJ]at *;refine av.intro (ah Tryz.prog) aC Tryz.func246 rfl (by rfl) (by kernel_rfl) (by show 2≤_;decide) rfl ?_;(conv=>whnf);refine au (i:=0) (x:=.agg [.i .i64 vk,.i .i64 vn,.s vt,.sl 5 (bu va),eP cS vc]) (by rw[aR];simp[eV]) ?_;(conv=>whnf);refine bh iA 300 htk ?_;(conv=>whnf);refine ag (.inl (by kernel_rfl)) ?_;(conv=>whnf);refine⟨.inl rfl,⟨s6,s6,s6,s6,s6,s6,s6,s6,s6,s6,s6,s6,s6,s6,s6,s6,trivial⟩⟩
   |false=>
    have hr2:r2=r:=GG ht;cases hF;dsimp only at htk;have hfl:=cJ zr S2.o k I8 r hr;unfold hA dX at *;rw[eV]at htk;dsimp only[mJ]at *;refine av.intro (ah Tryz.prog) aC Tryz.func246 rfl (by rfl) (by kernel_rfl) (by show 2≤_;decide) rfl ?_;(conv=>whnf);refine au (i:=0) (x:=.agg [.i .i64 vk,.i .i64 vn,.s vt,.sl 5 (bu va),eP cS vc]) (by rw[aR];simp[eV]) ?_;(conv=>whnf);refine bh iA 300 htk ?_;(conv=>whnf);refine ag (.inl (by kernel_rfl)) ?_;(conv=>whnf);refine bh [1000000000,1000000001] 300 hfl ?_;(conv=>whnf);rw[hr2];refine⟨.inl rfl,⟨s6,s6,s6,s6,s6,s6,s6,s6,s6,s6,s6,s6,s6,s6,s6,s6,trivial⟩⟩
theorem DW (K:Ks) (S:Ss) (zr:bf Rn) (k:Nat) (r:Rn) (f:Fr) (xs:List Vl) (R:Ss×Rn) (hr:aK k zr.2=some r) (hf:f.vals=.nA xs) (hF:lZ S r f xs=some R):
 av Tryz.prog 249 [.p (.bH rS k),.p (.agg (dX f))] (hA K S zr) (.cA []) (hA K R.1 (zr.1,aW k R.2 zr.2)):=by
 have hfl:=fun w=>cJ zr S.o k w r hr;obtain⟨f1,f2,f3,f4,f5⟩:=f;dsimp only at hf;subst hf;unfold lZ at hF
 try dsimp only at hF
 cases hg:Nat.ble xs.length 2000000&&Nat.ble r.names.length 2000000 with
 |false=>rw[hg]at hF;cases hF
 |true=>
  rw[hg]at hF;rw[Bool.and_eq_true]at hg;have hg1:=Nat.le_of_ble_eq_true hg.1;have hg2:=Nat.le_of_ble_eq_true hg.2
  try dsimp only at hF
  have hbg:=fun R=>xx zr S.s k xs r R hr hg2;have hal:=fun b=>mE S.c xs b hg1;obtain⟨r1,r2,r3,r4,r5,r6,r7,⟨c1,c2,c3,c4,c5⟩,⟨wk,wn,wt,wa,wc⟩,⟨o1,o2,o3,o4,o5,o6,o7,o8⟩,⟨p1,p2,p3,p4,p5⟩,r12⟩:=r;have hxl:(bu xs).length=xs.length:=by rw[aR];simp
  unfold hA iE dX at *;refine av.intro (ah Tryz.prog) aC Tryz.func249 rfl (by rfl) (by kernel_rfl) (by show 2≤_;decide) rfl ?_;(conv=>whnf);refine aj ?_ ?_<;>intro h1<;>conv=>whnf
  ·rw[show f5=true from h1,Bool.true_or]at hF
   cases hF;refine ag (.inl (by kernel_rfl)) ?_;(conv=>whnf);refine bh [1000000000,1000000001] 300 (hfl cG) ?_;(conv=>whnf);refine⟨.inl rfl,⟨s6,s6,s6,s6,s6,s6,s6,s6,s6,s6,s6,s6,s6,s6,s6,s6,trivial⟩⟩
  rw[show f5=false from h1,Bool.false_or]at hF;refine bC cP hr rfl ?_;(conv=>whnf);refine ag (.inl (by kernel_rfl)) ?_;(conv=>whnf);refine aj ?_ ?_<;>intro h2<;>conv=>whnf
  ·rw[show Nat.beq xs.length r2.length=false from by cases hq:Nat.beq xs.length r2.length with|false=>rfl|true=>have:=Nat.eq_of_beq_eq_true hq;rw[hxl,List.length_map,this]at h2;simp at h2]at hF
   cases hF;refine bh [1000000000,1000000001] 300 (hfl cG) ?_;(conv=>whnf);refine⟨.inl rfl,⟨s6,s6,s6,s6,s6,s6,s6,s6,s6,s6,s6,s6,s6,s6,s6,s6,trivial⟩⟩
  rw[show Nat.beq xs.length r2.length=true from by
   have:xs.length=r2.length:=by rw[hxl,List.length_map]at h2;simp at h2;omega
   rw[this];exact Nat.beq_refl _]at hF
  dsimp only[Bool.not_true]at hF
  cases ha:lP S.c.2 xs with
  |none=>rw[ha]at hF;cases hF
  |some b=>
   rw[ha]at hF;have hal:=hal b ha;refine bh [1000000008] 300 hal ?_;(conv=>whnf)
   cases b with
   |true=>
    cases hF;(conv=>whnf);refine bh [1000000000,1000000001] 300 (hfl kQ) ?_;(conv=>whnf);refine⟨.inl rfl,⟨s6,s6,s6,s6,s6,s6,s6,s6,s6,s6,s6,s6,s6,s6,s6,s6,trivial⟩⟩
   |false=>
    try dsimp only at hF
    cases hw:lD r2 xs (S.s,none) with
    |none=>rw[hw]at hF;cases hF
    |some Q=>
     rw[hw]at hF;cases hF;have hbg:=hbg Q hw;(conv=>whnf);refine bh [1000000000,1000000005] 300 hbg ?_;(conv=>whnf);refine⟨.inl rfl,⟨s6,s6,s6,s6,s6,s6,s6,s6,s6,s6,s6,s6,s6,s6,s6,s6,trivial⟩⟩
end MN
end
