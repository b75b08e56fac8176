/- Contracts, and the law, for every input. No conditions. -/
import Derived.Test.YtdmopjgjhfhfdaaGreatDoorMNI
import Derived.Test.YtdmopjgjhfhfdaaGreatDoorAMTop
import Derived.Test.YtdmopjgjhfhfdaaGreatDoorAMMv
open Go Go.AM Go.Proofs TK
set_option maxRecDepth 100000
namespace MN
theorem opIs_eq {s:ByteArray} {c:UInt8} (h:opIs s c=true):s=⟨#[c]⟩:=by
 unfold opIs at h;rw[B_of s,show(⟨#[c]⟩:ByteArray)=B [c] from rfl,B_beq]at h;have:=eq_of_beq h;rw[B_of s,this];rfl
def wHat:ByteArray:=⟨#[94]⟩
theorem opNum_cases {op:ByteArray} (h:opNum op=true):opIs op 43=true∨opIs op 45=true∨opIs op 42=true∨opIs op 47=true∨opIs op 37=true∨opIs op 60=true:=by
 unfold opNum at h;simpa[or_assoc] using h
theorem op_n (z:Sto (List Vl)) (op:ByteArray) (e:opNum op=true) (xs:List Vl) (R:Vl×ByteArray) (hl:xs.length≤1000001) (hF:operateF op xs=some R):
 AMem Tryz.prog 255 [.p (.s op),.p (.sl 5 (eVs xs))] [(1000000000,hVb z)] (.tup [.p (eV R.1),.p (.s R.2)]) [(1000000000,hVb z)]:=by
 have n1:(op.toList==wNot.toList)=false:=by rcases opNum_cases e with h|h|h|h|h|h<;>rw[opIs_eq h]<;>decide +kernel
 have n2:(op.toList==wHat.toList)=false:=by rcases opNum_cases e with h|h|h|h|h|h<;>rw[opIs_eq h]<;>decide +kernel
 unfold operateF at hF;rw[e]at hF;unfold hVb;refine AMem.introS (tyOf_ok Tryz.prog) Tryz.func255 rfl (by rfl) (by show 2≤_;decide) rfl ?_;refine AWp.cut (tyOf_ok Tryz.prog) hmix (by kernel_rfl) 3 [0,1,4,6,7] [4,1000000000] (fun _:Unit=>[.p (.s op),.p (.sl 5 (eVs xs)),.ptr 4 0,.p (.i .i64 2),.p (.i .i64 2)]) (fun _=>[.cells [.p (.i .i64 0),.p (.i .i64 0),.p (.s ⟨#[]⟩),.nilS,.p .nilp],.store 139 false vS z.1 5 (enM eVs z.2)]) (fun _=>True) ?_ ?_
 ·conv=>whnf
  cases e0:opIs op 43 with
  |true=>
   refine ast e0 ?_;(conv=>whnf);refine ast e0 ?_;(conv=>whnf);exact⟨(),⟨rfl,rfl,rfl,rfl⟩,trivial⟩
  |false=>
   refine asf e0 ?_;(conv=>whnf)
   cases e1:opIs op 45 with
   |true=>
    refine ast e1 ?_;(conv=>whnf);refine ast e1 ?_;(conv=>whnf);exact⟨(),⟨rfl,rfl,rfl,rfl⟩,trivial⟩
   |false=>
    refine asf e1 ?_;(conv=>whnf)
    cases e2:opIs op 42 with
    |true=>
     refine ast e2 ?_;(conv=>whnf);refine ast e2 ?_;(conv=>whnf);exact⟨(),⟨rfl,rfl,rfl,rfl⟩,trivial⟩
    |false=>
     refine asf e2 ?_;(conv=>whnf)
     cases e3:opIs op 47 with
     |true=>
      refine ast e3 ?_;(conv=>whnf);refine ast e3 ?_;(conv=>whnf);exact⟨(),⟨rfl,rfl,rfl,rfl⟩,trivial⟩
     |false=>
      refine asf e3 ?_;(conv=>whnf)
      cases e4:opIs op 37 with
      |true=>
       refine ast e4 ?_;(conv=>whnf);refine ast e4 ?_;(conv=>whnf);exact⟨(),⟨rfl,rfl,rfl,rfl⟩,trivial⟩
      |false=>
       refine asf e4 ?_;(conv=>whnf)
       cases e5:opIs op 60 with
       |true=>
        refine ast e5 ?_;(conv=>whnf);exact⟨(),⟨rfl,rfl,rfl,rfl⟩,trivial⟩
       |false=>
        rcases opNum_cases e with h|h|h|h|h|h<;>simp_all
 intro _ _;refine AWp.fin (tyOf_ok Tryz.prog) hmix (by kernel_rfl) ?_;(conv=>whnf);rcases xs with _|⟨⟨ak,an,at_,aa,ac⟩,_|⟨⟨bk,bn,bt,ba,bc⟩,_|⟨d,xs⟩⟩⟩
 ·conv=>whnf
  cases hF;refine⟨.inl rfl,⟨s6,trivial⟩⟩
 ·conv=>whnf
  cases hF;refine⟨.inl rfl,⟨s6,trivial⟩⟩
 ·conv=>whnf
  replace hF:(match (ak==2)&&(bk==2) with|false=>some (zV,wType)|true=>match opIs op 60 with|true=>some (vI 3 (bI (decide (an<bn))),(⟨#[]⟩:ByteArray))|false=>some (arithF op an bn))=some R:=hF;have har:=arith_spec op an bn;refine loopS (tyOf_ok _) hmix (by kernel_rfl) 2 [0,1,4,6,50,51,52] [4,1000000000] (fun j (_:Unit)=>[.p (.s op),.p (.sl 5 ([.agg [.i .i64 ak,.i .i64 an,.s at_,.sl 5 (eVs aa),eP cS ac],.agg [.i .i64 bk,.i .i64 bn,.s bt,.sl 5 (eVs ba),eP cS bc]])),.ptr 4 0,.p (.i .i64 2),.p (.sl 5 ([.agg [.i .i64 ak,.i .i64 an,.s at_,.sl 5 (eVs aa),eP cS ac],.agg [.i .i64 bk,.i .i64 bn,.s bt,.sl 5 (eVs ba),eP cS bc]])),.p (.i .i64 2),.p (.i .i64 (ix j))]) (fun _ _=>[.cells [.p (.i .i64 0),.p (.i .i64 0),.p (.s ⟨#[]⟩),.nilS,.p .nilp],.store 139 false vS z.1 5 (enM eVs z.2)]) (fun j _=>(1≤j→(ak==2)=true)∧(2≤j→(bk==2)=true)) () ⟨rfl,rfl,rfl,rfl⟩ ⟨by omega,by omega⟩ ?_;rintro j _ hj ⟨q1,q2⟩;(conv=>whnf);refine asplit ?_ ?_<;>intro h1<;>conv=>whnf
  ·have hj1:j<2:=ix_tt h1 rfl hj (by omega)
   have hj2:j=0∨j=1:=by omega
   rcases hj2 with rfl|rfl
   ·refine aidxk (x:=.agg [.i .i64 ak,.i .i64 an,.s at_,.sl 5 (eVs aa),eP cS ac]) rfl (by omega) ?_
    (conv=>whnf);refine asplit ?_ ?_<;>intro g1<;>conv=>whnf
    ·rw[show((ak==2)&&(bk==2))=false from(by rw[show(ak==2)=false by simpa using g1];rfl)]at hF
     cases hF;refine⟨.inl rfl,⟨s6,trivial⟩⟩
    ·exact⟨by omega,(),⟨rfl,rfl,rfl,rfl⟩,⟨fun _=>(by simpa using g1),by omega⟩⟩
   ·refine aidxk (x:=.agg [.i .i64 bk,.i .i64 bn,.s bt,.sl 5 (eVs ba),eP cS bc]) rfl (by omega) ?_
    (conv=>whnf);refine asplit ?_ ?_<;>intro g1<;>conv=>whnf
    ·rw[show((ak==2)&&(bk==2))=false from(by rw[show(bk==2)=false by simpa using g1,Bool.and_false])]at hF
     cases hF;refine⟨.inl rfl,⟨s6,trivial⟩⟩
    ·exact⟨by omega,(),⟨rfl,rfl,rfl,rfl⟩,⟨fun _=>q1 (by omega),fun _=>(by simpa using g1)⟩⟩
  have hj1:j=2:=ix_ff h1 rfl hj (by omega);subst hj1;rw[q1 (by omega),q2 (by omega)]at hF
  try dsimp only at hF
  (conv=>whnf);refine asf n1 ?_;(conv=>whnf);refine asf n2 ?_;(conv=>whnf)
  cases n3:opIs op 60 with
  |true=>
   rw[n3]at hF;refine ast n3 ?_;(conv=>whnf);refine aidxn (i:=0) (x:=.agg [.i .i64 ak,.i .i64 an,.s at_,.sl 5 (eVs aa),eP cS ac]) rfl ?_;(conv=>whnf);refine aidxn (i:=1) (x:=.agg [.i .i64 bk,.i .i64 bn,.s bt,.sl 5 (eVs ba),eP cS bc]) rfl ?_;(conv=>whnf);cases hF;refine apc (bool_spec _) ?_;(conv=>whnf);refine aneed (.inl (by kernel_rfl)) ?_;(conv=>whnf);refine⟨.inl rfl,⟨s6,trivial⟩⟩
  |false=>
   rw[n3]at hF;refine asf n3 ?_;(conv=>whnf);refine aidxn (i:=0) (x:=.agg [.i .i64 ak,.i .i64 an,.s at_,.sl 5 (eVs aa),eP cS ac]) rfl ?_;(conv=>whnf);refine aidxn (i:=1) (x:=.agg [.i .i64 bk,.i .i64 bn,.s bt,.sl 5 (eVs ba),eP cS bc]) rfl ?_;(conv=>whnf);cases hF;generalize arithF op an bn=q at har;obtain⟨⟨u1,u2,u3,u4,u5⟩,w⟩:=q;rw[eV]at har;refine apc har ?_;(conv=>whnf);refine aneed (.inl (by kernel_rfl)) ?_;(conv=>whnf);refine⟨.inl rfl,⟨s6,trivial⟩⟩
 ·conv=>whnf
  cases hF;refine⟨.inl rfl,⟨s6,trivial⟩⟩
theorem op_61 (z:Sto (List Vl)) (op:ByteArray) (e0:opIs op 43=false) (e1:opIs op 45=false) (e2:opIs op 42=false) (e3:opIs op 47=false) (e4:opIs op 37=false) (e5:opIs op 60=false) (e6:opIs op 61=true) (xs:List Vl) (R:Vl×ByteArray) (hF:operateF op xs=some R):
 AMem Tryz.prog 255 [.p (.s op),.p (.sl 5 (eVs xs))] [(1000000000,hVb z)] (.tup [.p (eV R.1),.p (.s R.2)]) [(1000000000,hVb z)]:=by
 have e:opNum op=false:=by
  unfold opNum;simp[e0,e1,e2,e3,e4,e5]
 have n1:(op.toList==wNot.toList)=false:=by rw[opIs_eq e6];decide +kernel
 have n2:(op.toList==wHat.toList)=false:=by rw[opIs_eq e6];decide +kernel
 unfold operateF at hF;rw[e,e6]at hF;unfold hVb
 cases xs with
 |nil=>
  refine AMem.intro (tyOf_ok Tryz.prog) hmix Tryz.func255 rfl (by rfl) (by kernel_rfl) (by show 2≤_;decide) rfl ?_;(conv=>whnf);refine asf e0 ?_;(conv=>whnf);refine asf e1 ?_;(conv=>whnf);refine asf e2 ?_;(conv=>whnf);refine asf e3 ?_;(conv=>whnf);refine asf e4 ?_;(conv=>whnf);refine asf e5 ?_;(conv=>whnf);refine asf n2 ?_;(conv=>whnf);refine asf n1 ?_;(conv=>whnf);refine ast e6 ?_;(conv=>whnf);cases hF;refine⟨.inl rfl,⟨s6,trivial⟩⟩
 |cons a xs=>
  cases xs with
  |nil=>
   refine AMem.intro (tyOf_ok Tryz.prog) hmix Tryz.func255 rfl (by rfl) (by kernel_rfl) (by show 2≤_;decide) rfl ?_;(conv=>whnf);refine asf e0 ?_;(conv=>whnf);refine asf e1 ?_;(conv=>whnf);refine asf e2 ?_;(conv=>whnf);refine asf e3 ?_;(conv=>whnf);refine asf e4 ?_;(conv=>whnf);refine asf e5 ?_;(conv=>whnf);refine asf n2 ?_;(conv=>whnf);refine asf n1 ?_;(conv=>whnf);refine ast e6 ?_;(conv=>whnf);cases hF;refine⟨.inl rfl,⟨s6,trivial⟩⟩
  |cons b xs=>
   cases xs with
   |cons d xs=>
    refine AMem.intro (tyOf_ok Tryz.prog) hmix Tryz.func255 rfl (by rfl) (by kernel_rfl) (by show 2≤_;decide) rfl ?_;(conv=>whnf);refine asf e0 ?_;(conv=>whnf);refine asf e1 ?_;(conv=>whnf);refine asf e2 ?_;(conv=>whnf);refine asf e3 ?_;(conv=>whnf);refine asf e4 ?_;(conv=>whnf);refine asf e5 ?_;(conv=>whnf);refine asf n2 ?_;(conv=>whnf);refine asf n1 ?_;(conv=>whnf);refine ast e6 ?_;(conv=>whnf);cases hF;refine⟨.inl rfl,⟨s6,trivial⟩⟩
   |nil=>
    dsimp only at hF
    cases hs:sameF 60 a b with
    |none=>rw[hs]at hF;cases hF
    |some q=>
     rw[hs]at hF;cases hF;have hsm:=same_spec 60 a b q hs;have hbl:=bool_spec q.1;obtain⟨ak,an,at_,aa,ac⟩:=a;obtain⟨bk,bn,bt,ba,bc⟩:=b;rw[eV,eV]at hsm;refine AMem.intro (tyOf_ok Tryz.prog) hmix Tryz.func255 rfl (by rfl) (by kernel_rfl) (by show 2≤_;decide) rfl ?_;(conv=>whnf);refine asf e0 ?_;(conv=>whnf);refine asf e1 ?_;(conv=>whnf);refine asf e2 ?_;(conv=>whnf);refine asf e3 ?_;(conv=>whnf);refine asf e4 ?_;(conv=>whnf);refine asf e5 ?_;(conv=>whnf);refine asf n2 ?_;(conv=>whnf);refine asf n1 ?_;(conv=>whnf);refine ast e6 ?_;(conv=>whnf);refine aidxn (i:=0) (x:=.agg [.i .i64 ak,.i .i64 an,.s at_,.sl 5 (eVs aa),eP cS ac]) rfl ?_;(conv=>whnf);refine aidxn (i:=1) (x:=.agg [.i .i64 bk,.i .i64 bn,.s bt,.sl 5 (eVs ba),eP cS bc]) rfl ?_;(conv=>whnf);refine apc hsm ?_;(conv=>whnf);refine aneed (.inl (by kernel_rfl)) ?_;(conv=>whnf);refine apc hbl ?_;(conv=>whnf);refine⟨.inl rfl,⟨s6,trivial⟩⟩
theorem operate_spec (z:Sto (List Vl)) (op:ByteArray) (xs:List Vl) (R:Vl×ByteArray) (hl:xs.length≤1000001) (hF:operateF op xs=some R):
 AMem Tryz.prog 255 [.p (.s op),.p (.sl 5 (eVs xs))] [(1000000000,hVb z)] (.tup [.p (eV R.1),.p (.s R.2)]) [(1000000000,hVb z)]:=by
 cases e:opNum op with
 |true=>exact op_n z op e xs R hl hF
 |false=>
  cases e6:opIs op 61 with
  |true=>
   have h:=e;unfold opNum at h;simp only[Bool.or_eq_false_iff]at h;obtain⟨⟨⟨⟨⟨e0,e1⟩,e2⟩,e3⟩,e4⟩,e5⟩:=h;exact op_61 z op e0 e1 e2 e3 e4 e5 e6 xs R hF
  |false=>
   unfold operateF at hF;rw[e,e6]at hF;cases hF
end MN
