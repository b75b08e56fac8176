/- Contracts, and the law, for every input. No conditions. -/
import Derived.Test.YtdmopjgjhfhfdaaGreatDoorMN5
set_option linter.all false
section
open Go Go.AM Go.Proofs TK
set_option maxRecDepth 100000
namespace MN
def NI (M:List (Nat×Cl)) (c:Option Nat) (a:Nat):Option Bool:=match c with
 |none=>some false
 |some b=>match aJ b M with
  |none=>none
  |some _=>match aJ a M with
   |none=>none
   |some _=>some (Nat.beq b a)
def ni (f:Vl→Option Bool):List Vl→Option Bool
 | []=>some false
 |v::r=>match f v with
  |none=>none
  |some true=>some true
  |some false=>ni f r
def Vl.cell:Vl→Option Nat
 |.mk _ _ _ _ c=>c
def ia (M:List (Nat×Cl)) (a:Nat):Nat→Vl→Option Bool
 |0,_=>none
 |n+1,v=>match NI M v.cell a with
  |none=>none
  |some true=>some true
  |some false=>match er M v with
   |none=>none
   |some l=>match decide (l.length≤2000000) with
    |false=>none
    |true=>ni (ia M a n) l
theorem yg (z:bf Cl) (a:Nat):∀(n:Nat) (v:Vl) (b:Bool),ia z.2 a n v=some b→
 av Tryz.prog 271 [.p (eV v),.p (.bG cS a)] [(1000000000,kJ z)] (.p (.b b)) [(1000000000,kJ z)]
 |0,_,_,hF=>by cases hF
 |n+1,v,b,hF=>by
  have ih:=yg z a n;unfold ia at hF;obtain⟨vk,vn,vt,va,vc⟩:=v;rw[eV];have hp:=nX z (.mk vk vn vt va vc);rw[eV]at hp;unfold kJ at *;rw[Vl.cell]at hF
  have main:(match er z.2 (.mk vk vn vt va vc) with|none=>none|some l=>match decide (l.length≤2000000) with|false=>none|true=>ni (ia z.2 a n) l)=some b→
   ∀R:List Vl,er z.2 (.mk vk vn vt va vc)=some R→R.length≤2000000∧ni (ia z.2 a n) R=some b:=fun h R hR=>by
   rw[hR]at h;dsimp only at h;split at h
   ·cases h
   ·rename_i q;exact⟨of_decide_eq_true q,h⟩
  have some_:(match er z.2 (.mk vk vn vt va vc) with|none=>none|some l=>match decide (l.length≤2000000) with|false=>none|true=>ni (ia z.2 a n) l)=some b→∃R,er z.2 (.mk vk vn vt va vc)=some R:=fun h=>by
   cases hq:er z.2 (.mk vk vn vt va vc) with
   |none=>rw[hq]at h;cases h
   |some R=>exact⟨R,rfl⟩
  refine av.intro (ah Tryz.prog) az Tryz.func271 rfl (by rfl) (by kernel_rfl) (by show 2≤_;decide) rfl ?_;(conv=>whnf)
  cases vc with
  |none=>
   (conv=>whnf);rw[show NI z.2 none a=some false from rfl]at hF;dsimp only at hF;obtain⟨R,hR⟩:=some_ hF;obtain⟨hRl,hQ0⟩:=main hF R hR;have hp:=hp R hR;clear main some_ hF;have hlen:(br R).length=R.length:=by rw[aQ];simp
   (conv=>whnf);refine bg [1000000000] 300 hp ?_;(conv=>whnf);refine bK (ah _) az (by kernel_rfl) R.length [1,12,13,14] [1000000000] (fun j (_:Unit)=>[.p (.bG cS a),.p (.sl 5 (br R)),.p (.i .i64 (br R).length),.p (.i .i64 (ix j))]) (fun _ _=>[.store 212 true cS z.1 6 (cy zM z.2)]) (fun j _=>ni (ia z.2 a n) (R.drop j)=some b) () ⟨rfl,rfl,rfl,rfl⟩ hQ0 ?_;rintro j _ hj hQ;(conv=>whnf);refine aj ?_ ?_<;>intro h1<;>conv=>whnf
   ·have hj1:=cj h1 (by rw[hlen]) hj (by omega)
    obtain⟨u,hu⟩:∃u,R[j]?=some u:=⟨_,List.getElem?_eq_getElem hj1⟩
    rw[drop_cons hu,ni]at hQ
    cases hm:ia z.2 a n u with
    |none=>rw[hm]at hQ;cases hQ
    |some b1=>
     rw[hm]at hQ;have hi:=ih u b1 hm;obtain⟨uk,un,ut,ua,uc⟩:=u;rw[eV]at hi;refine bM (x:=.agg [.i .i64 uk,.i .i64 un,.s ut,.sl 5 (br ua),eP cS uc]) (by rw[aQ];simp[hu,eV]) (by omega) ?_;(conv=>whnf);refine bg [1000000000] 300 hi ?_;(conv=>whnf)
     cases b1 with
     |true=>
      cases hQ;(conv=>whnf);exact⟨.inl rfl,⟨s6,trivial⟩⟩
     |false=>
      (conv=>whnf);exact⟨hj1,(),⟨rfl,rfl,rfl,rfl⟩,hQ⟩
   ·have h1:=cm h1 (by rw[hlen]) hj (by omega)
    subst h1;rw[List.drop_length]at hQ;cases hQ;exact⟨.inl rfl,⟨s6,trivial⟩⟩
  |some k=>
   unfold NI at hF;dsimp only at hF
   cases hk:aJ k z.2 with
   |none=>rw[hk]at hF;cases hF
   |some ck=>
    rw[hk]at hF
    cases ha:aJ a z.2 with
    |none=>rw[ha]at hF;cases hF
    |some ca=>
     rw[ha]at hF;dsimp only at hF;(conv=>whnf);refine ag ⟨rfl,rfl,by decide,by rw[aq hk];rfl,by rw[aq ha];rfl⟩ ?_;(conv=>whnf);refine aj ?_ ?_<;>intro h0<;>conv=>whnf
     ·rw[show Nat.beq k a=true from h0]at hF
      cases hF;exact⟨.inl rfl,⟨s6,trivial⟩⟩
     ·rw[show Nat.beq k a=false from h0]at hF
      dsimp only at hF;obtain⟨R,hR⟩:=some_ hF;obtain⟨hRl,hQ0⟩:=main hF R hR;have hp:=hp R hR;clear main some_ hF;have hlen:(br R).length=R.length:=by rw[aQ];simp
      (conv=>whnf);refine bg [1000000000] 300 hp ?_;(conv=>whnf);refine bK (ah _) az (by kernel_rfl) R.length [1,12,13,14] [1000000000] (fun j (_:Unit)=>[.p (.bG cS a),.p (.sl 5 (br R)),.p (.i .i64 (br R).length),.p (.i .i64 (ix j))]) (fun _ _=>[.store 212 true cS z.1 6 (cy zM z.2)]) (fun j _=>ni (ia z.2 a n) (R.drop j)=some b) () ⟨rfl,rfl,rfl,rfl⟩ hQ0 ?_;rintro j _ hj hQ;(conv=>whnf);refine aj ?_ ?_<;>intro h1<;>conv=>whnf
      ·have hj1:=cj h1 (by rw[hlen]) hj (by omega)
       obtain⟨u,hu⟩:∃u,R[j]?=some u:=⟨_,List.getElem?_eq_getElem hj1⟩
       rw[drop_cons hu,ni]at hQ
       cases hm:ia z.2 a n u with
       |none=>rw[hm]at hQ;cases hQ
       |some b1=>
        rw[hm]at hQ;have hi:=ih u b1 hm;obtain⟨uk,un,ut,ua,uc⟩:=u;rw[eV]at hi;refine bM (x:=.agg [.i .i64 uk,.i .i64 un,.s ut,.sl 5 (br ua),eP cS uc]) (by rw[aQ];simp[hu,eV]) (by omega) ?_;(conv=>whnf);refine bg [1000000000] 300 hi ?_;(conv=>whnf)
        cases b1 with
        |true=>
         cases hQ;(conv=>whnf);exact⟨.inl rfl,⟨s6,trivial⟩⟩
        |false=>
         (conv=>whnf);exact⟨hj1,(),⟨rfl,rfl,rfl,rfl⟩,hQ⟩
      ·have h1:=cm h1 (by rw[hlen]) hj (by omega)
       subst h1;rw[List.drop_length]at hQ;cases hQ;exact⟨.inl rfl,⟨s6,trivial⟩⟩
end MN
end
section
open Go Go.AM Go.Proofs TK
set_option maxRecDepth 100000
namespace MN
noncomputable def Qe:Nat→Option TI:=hint (jJ Tryz.prog) 212 [1000018]
theorem MA:bw Tryz.prog Qe:=(ah Tryz.prog).hint _ _
def kQ:ByteArray:=⟨#[108,97,114,103,101]⟩
def cD:ByteArray:=⟨#[116,121,112,101]⟩
def KA:ByteArray:=⟨#[103,111,110,101]⟩
def EA (z:bf Cl) (v x:Vl):Option (ByteArray×bf Cl):=match v with
 |.mk k _ _ _ c=>match k==8 with
  |false=>some (cD,z)
  |true=>match c with
   |none=>none
   |some a=>match aJ a z.2 with
    |none=>none
    |some q=>match q.gone with
     |true=>some (KA,z)
     |false=>match iL ((z.1,⟨false,x⟩)::z.2) (.mk 8 0 ⟨#[]⟩ [] (some z.1)) with
      |none=>none
      |some true=>some (kQ,(z.1+1,(z.1,⟨false,x⟩)::z.2))
      |some false=>match ia ((z.1,⟨false,x⟩)::z.2) a 45 x with
       |none=>none
       |some true=>some (kQ,(z.1+1,(z.1,⟨false,x⟩)::z.2))
       |some false=>match aJ a ((z.1,(⟨false,x⟩:Cl))::z.2) with
        |none=>none
        |some q2=>some (⟨#[]⟩,(z.1+1,aV a ⟨q2.gone,x⟩ ((z.1,⟨false,x⟩)::z.2)))
theorem J7 (z:bf Cl) (v x:Vl) (R:ByteArray×bf Cl) (hF:EA z v x=some R):
 av Tryz.prog 267 [.p (eV v),.p (eV x)] [(1000000000,kJ z)] (.p (.s R.1)) [(1000000000,kJ R.2)]:=by
 unfold EA at hF;obtain⟨k,n,t,l,c⟩:=v;obtain⟨xk,xn,xt,xa,xc⟩:=x;dsimp only at hF;have hs:=fun b=>nZ (z.1+1,(z.1,⟨false,.mk xk xn xt xa xc⟩)::z.2) (.mk 8 0 ⟨#[]⟩ [] (some z.1)) b;have hh:=fun a b=>yg (z.1+1,(z.1,⟨false,.mk xk xn xt xa xc⟩)::z.2) a 45 (.mk xk xn xt xa xc) b;rw[eV,eV];rw[eV]at hs hh;unfold kJ at *;refine av.intro MA az Tryz.func267 rfl (by rfl) (by kernel_rfl) (by show 2≤_;decide) rfl ?_;(conv=>whnf);refine aj ?_ ?_<;>intro h1<;>conv=>whnf
 ·rw[show(k==8)=false by simpa using h1]at hF
  cases hF;exact⟨.inl rfl,⟨s6,trivial⟩⟩
 ·rw[show(k==8)=true by simpa using h1]at hF
  cases c with
  |none=>cases hF
  |some a=>
   dsimp only at hF
   cases hc:aJ a z.2 with
   |none=>rw[hc]at hF;cases hF
   |some q=>
    rw[hc]at hF;obtain⟨g,⟨vk,vn,vt,va,vc⟩⟩:=q;(conv=>whnf);refine ag ⟨rfl,by decide,.inl rfl⟩ ?_;refine⟨_,aq hc,?_⟩;refine au (i:=0) rfl ?_;(conv=>whnf)
    cases g with
    |true=>
     cases hF;(conv=>whnf);exact⟨.inl rfl,⟨s6,trivial⟩⟩
    |false=>
     dsimp only at hF;(conv=>whnf)
     cases hl:iL ((z.1,⟨false,.mk xk xn xt xa xc⟩)::z.2) (.mk 8 0 ⟨#[]⟩ [] (some z.1)) with
     |none=>rw[hl]at hF;cases hF
     |some b1=>
      rw[hl]at hF;refine bg [1000000000] 300 (hs b1 hl) ?_;(conv=>whnf)
      cases b1 with
      |true=>
       cases hF;(conv=>whnf);exact⟨.inl rfl,⟨s6,trivial⟩⟩
      |false=>
       dsimp only at hF;(conv=>whnf)
       cases ho:ia ((z.1,⟨false,.mk xk xn xt xa xc⟩)::z.2) a 45 (.mk xk xn xt xa xc) with
       |none=>rw[ho]at hF;cases hF
       |some b2=>
        rw[ho]at hF;refine bg [1000000000] 300 (hh a b2 ho) ?_;(conv=>whnf)
        cases b2 with
        |true=>
         cases hF;(conv=>whnf);exact⟨.inl rfl,⟨s6,trivial⟩⟩
        |false=>
         dsimp only at hF
         cases hc2:aJ a ((z.1,(⟨false,.mk xk xn xt xa xc⟩:Cl))::z.2) with
         |none=>rw[hc2]at hF;cases hF
         |some q2=>
          rw[hc2]at hF;cases hF;obtain⟨g2,⟨wk,wn,wt,wa,wc⟩⟩:=q2;(conv=>whnf);refine ag ⟨rfl,by decide,.inl rfl⟩ ?_;refine⟨_,aq (enc:=zM) hc2,?_⟩;refine au (i:=0) rfl ?_;(conv=>whnf);refine⟨.inl rfl,⟨⟨rfl,rfl,rfl,rfl,rfl,?_⟩,trivial⟩⟩;exact bL zM a ⟨g2,.mk xk xn xt xa xc⟩ ((z.1,⟨false,.mk xk xn xt xa xc⟩)::z.2)
end MN
end
section
open Go Go.AM Go.Proofs TK
set_option maxRecDepth 100000
namespace MN
abbrev vI (k n:Int):Vl:=.mk k n ⟨#[]⟩ [] none
theorem uP:aU Tryz.prog 261 [] (.p (eV (vI 1 0))):=by
 refine aU.intro (ah Tryz.prog) az Tryz.func261 rfl (by rfl) (by kernel_rfl) (by show 0≤_;decide) rfl ?_;(conv=>whnf);exact .inl rfl
theorem mR (n:Int):aU Tryz.prog 262 [.p (.i .i64 n)] (.p (eV (vI 2 n))):=by
 refine aU.intro (ah Tryz.prog) az Tryz.func262 rfl (by rfl) (by kernel_rfl) (by show 1≤_;decide) rfl ?_;(conv=>whnf);exact .inl rfl
theorem Je (n:Int):aU Tryz.prog 264 [.p (.i .i64 n)] (.p (eV (vI 6 n))):=by
 refine aU.intro (ah Tryz.prog) az Tryz.func264 rfl (by rfl) (by kernel_rfl) (by show 1≤_;decide) rfl ?_;(conv=>whnf);exact .inl rfl
def bI:Bool→Int
 |true=>1
 |false=>0
theorem qm (b:Bool):aU Tryz.prog 263 [.p (.b b)] (.p (eV (vI 3 (bI b)))):=by
 cases b with
 |true=>
  refine aU.intro (ah Tryz.prog) az Tryz.func263 rfl (by rfl) (by kernel_rfl) (by show 1≤_;decide) rfl ?_;(conv=>whnf);exact .inl rfl
 |false=>
  refine aU.intro (ah Tryz.prog) az Tryz.func263 rfl (by rfl) (by kernel_rfl) (by show 1≤_;decide) rfl ?_;(conv=>whnf);exact .inl rfl
def oN (k:Int):ByteArray:=match k==1 with
 |true=>⟨#[117,110,105,116]⟩
 |false=>match k==2 with
  |true=>⟨#[105,110,116]⟩
  |false=>match k==3 with
   |true=>⟨#[98,111,111,108]⟩
   |false=>match k==4 with
    |true=>⟨#[116,101,120,116]⟩
    |false=>⟨#[]⟩
theorem EP (k:Int):aU Tryz.prog 270 [.p (.i .i64 k)] (.p (.s (oN k))):=by
 unfold oN;refine aU.intro (ah Tryz.prog) az Tryz.func270 rfl (by rfl) (by kernel_rfl) (by show 1≤_;decide) rfl ?_;(conv=>whnf);refine aj ?_ ?_<;>intro h1<;>conv=>whnf
 ·rw[show(k==1)=true from h1];exact .inl rfl
 rw[show(k==1)=false from h1];refine aj ?_ ?_<;>intro h2<;>conv=>whnf
 ·rw[show(k==2)=true from h2];exact .inl rfl
 rw[show(k==2)=false from h2];refine aj ?_ ?_<;>intro h3<;>conv=>whnf
 ·rw[show(k==3)=true from h3];exact .inl rfl
 rw[show(k==3)=false from h3];refine aj ?_ ?_<;>intro h4<;>conv=>whnf
 ·rw[show(k==4)=true from h4];exact .inl rfl
 rw[show(k==4)=false from h4];exact .inl rfl
def N8:ByteArray:=⟨#[122,101,114,111]⟩
def cN (s:ByteArray) (c:UInt8):Bool:=s.toList==(⟨#[c]⟩:ByteArray).toList
def nH (op:ByteArray) (a b:Int):Vl×ByteArray:=match cN op 43 with
 |true=>(vI 2 (IntKind.i64.wrap (a+b)),⟨#[]⟩)
 |false=>match cN op 45 with
  |true=>(vI 2 (IntKind.i64.wrap (a-b)),⟨#[]⟩)
  |false=>match cN op 42 with
   |true=>(vI 2 (IntKind.i64.wrap (a*b)),⟨#[]⟩)
   |false=>match b==0 with
    |true=>(zV,N8)
    |false=>match cN op 47 with
     |true=>(vI 2 (IntKind.i64.wrap (a.tdiv b)),⟨#[]⟩)
     |false=>(vI 2 (a.tmod b),⟨#[]⟩)
theorem Fc (op:ByteArray) (a b:Int):aU Tryz.prog 269 [.p (.s op),.p (.i .i64 a),.p (.i .i64 b)] (.cz [.p (eV (nH op a b).1),.p (.s (nH op a b).2)]):=by
 unfold nH;refine aU.intro (ah Tryz.prog) az Tryz.func269 rfl (by rfl) (by kernel_rfl) (by show 3≤_;decide) rfl ?_;(conv=>whnf);refine aj ?_ ?_<;>intro h1<;>conv=>whnf
 ·rw[show cN op 43=true from h1]
  refine iX (mR _) ?_;(conv=>whnf);exact .inl rfl
 rw[show cN op 43=false from h1];refine aj ?_ ?_<;>intro h2<;>conv=>whnf
 ·rw[show cN op 45=true from h2]
  refine iX (mR _) ?_;(conv=>whnf);exact .inl rfl
 rw[show cN op 45=false from h2];refine aj ?_ ?_<;>intro h3<;>conv=>whnf
 ·rw[show cN op 42=true from h3]
  refine iX (mR _) ?_;(conv=>whnf);exact .inl rfl
 rw[show cN op 42=false from h3];refine aj ?_ ?_<;>intro h4<;>conv=>whnf
 ·rw[show(b==0)=true from h4]
  exact .inl rfl
 rw[show(b==0)=false from h4];have hb:b≠0:=fun q=>by subst q;exact absurd h4 (by decide)
 refine aj ?_ ?_<;>intro h5<;>conv=>whnf
 ·rw[show cN op 47=true from h5]
  refine ag ⟨rfl,hb⟩ ?_;(conv=>whnf);refine iX (mR _) ?_;(conv=>whnf);exact .inl rfl
 rw[show cN op 47=false from h5];refine ag ⟨rfl,hb⟩ ?_;(conv=>whnf);refine iX (mR _) ?_;(conv=>whnf);exact .inl rfl
end MN
end
section
open Go Go.AM Go.Proofs TK
set_option maxRecDepth 100000
namespace MN
def Vl.kind:Vl→Int
 |.mk k _ _ _ _=>k
def Vl.num:Vl→Int
 |.mk _ n _ _ _=>n
def Vl.text:Vl→ByteArray
 |.mk _ _ t _ _=>t
def Vl.args:Vl→List Vl
 |.mk _ _ _ l _=>l
mutual
def kL:Vl→Nat
 |.mk _ _ _ l _=>qM l+1
def qM:List Vl→Nat
 | []=>0
 |v::r=>max (kL v) (qM r)
end
def oO (v:Vl):Bool:=(v.kind==7)||(v.kind==8)
def vf (f:Vl→Vl→Option (Bool×ByteArray)):List Vl→List Vl→Option (Bool×ByteArray)
 | [],_=>some (true,⟨#[]⟩)
 |_::_,[]=>none
 |a::r,b::s=>match f a b with
  |none=>none
  |some (false,w)=>some (false,w)
  |some (true,_)=>vf f r s
def qV:Nat→Vl→Vl→Option (Bool×ByteArray)
 |0,_,_=>none
 |n+1,a,b=>match oO a||oO b with
  |true=>some (false,cD)
  |false=>match a.kind==b.kind with
   |false=>some (false,cD)
   |true=>match !(a.num==b.num)||!(a.text.toList==b.text.toList)||!(((br a.args).length:Int)==((br b.args).length:Int)) with
    |true=>some (false,⟨#[]⟩)
    |false=>match Nat.ble a.args.length 2000000 with
     |false=>none
     |true=>vf (qV n) a.args b.args
theorem Aj:∀(n:Nat) (a b:Vl) (R:Bool×ByteArray),qV n a b=some R→aU Tryz.prog 268 [.p (eV a),.p (eV b)] (.cz [.p (.b R.1),.p (.s R.2)])
 |0,_,_,_,hF=>by cases hF
 |n+1,a,b,R,hF=>by
  have ih:=Aj n;unfold qV at hF;obtain⟨ak,an,at_,al,ac⟩:=a;obtain⟨bk,bn,bt,bl,bc⟩:=b;rw[eV,eV];have hlen:(br al).length=al.length:=by rw[aQ];simp
  generalize hA:PV.agg [.i .i64 ak,.i .i64 an,.s at_,.sl 5 (br al),eP cS ac]=pa;generalize hB:PV.agg [.i .i64 bk,.i .i64 bn,.s bt,.sl 5 (br bl),eP cS bc]=pb;subst hA;subst hB;refine aU.intro (ah Tryz.prog) az Tryz.func268 rfl (by rfl) (by kernel_rfl) (by show 2≤_;decide) rfl ?_;(conv=>whnf);refine bK (ah _) az (by kernel_rfl) 2 [2,3,13,14,15] [2,3] (fun j (_:Unit)=>[.ptr 2 0,.ptr 3 0,.so 5 ([.agg [.i .i64 ak,.i .i64 an,.s at_,.sl 5 (br al),eP cS ac],.agg [.i .i64 bk,.i .i64 bn,.s bt,.sl 5 (br bl),eP cS bc]]),.p (.i .i64 2),.p (.i .i64 (ix j))]) (fun _ _=>[.cells (ij [.i .i64 ak,.i .i64 an,.s at_,.sl 5 (br al),eP cS ac]),.cells (ij [.i .i64 bk,.i .i64 bn,.s bt,.sl 5 (br bl),eP cS bc])]) (fun j _=>(1≤j→oO (.mk ak an at_ al ac)=false)∧(2≤j→oO (.mk bk bn bt bl bc)=false)) () ⟨rfl,rfl,rfl,rfl⟩ ⟨by omega,by omega⟩ ?_;rintro j _ hj ⟨q1,q2⟩;(conv=>whnf);refine aj ?_ ?_<;>intro h1<;>conv=>whnf
  ·have hj1:j<2:=cj h1 rfl hj (by omega)
   match j,hj1 with
   |0,_=>
    refine bM (x:=.agg [.i .i64 ak,.i .i64 an,.s at_,.sl 5 (br al),eP cS ac]) rfl (by omega) ?_;(conv=>whnf);refine aj ?_ ?_<;>intro g1<;>conv=>whnf
    ·rw[show oO (.mk ak an at_ al ac)=true by unfold oO;rw[Vl.kind,show(ak==7)=true from g1];rfl]at hF
     rw[Bool.true_or]at hF;cases hF;exact .inl rfl
    ·refine aj ?_ ?_<;>intro g2<;>conv=>whnf
     ·rw[show oO (.mk ak an at_ al ac)=true by unfold oO;rw[Vl.kind,show(ak==8)=true from g2,Bool.or_true]]at hF
      rw[Bool.true_or]at hF;cases hF;exact .inl rfl
     ·have hn:oO (.mk ak an at_ al ac)=false:=by unfold oO;rw[Vl.kind,show(ak==7)=false from g1,show(ak==8)=false from g2];rfl
      exact⟨by decide,(),⟨rfl,rfl,rfl,rfl⟩,fun _=>hn,by omega⟩
   |1,_=>
    refine bM (x:=.agg [.i .i64 bk,.i .i64 bn,.s bt,.sl 5 (br bl),eP cS bc]) rfl (by omega) ?_;(conv=>whnf);refine aj ?_ ?_<;>intro g1<;>conv=>whnf
    ·rw[show oO (.mk bk bn bt bl bc)=true by unfold oO;rw[Vl.kind,show(bk==7)=true from g1];rfl]at hF
     rw[Bool.or_true]at hF;cases hF;exact .inl rfl
    ·refine aj ?_ ?_<;>intro g2<;>conv=>whnf
     ·rw[show oO (.mk bk bn bt bl bc)=true by unfold oO;rw[Vl.kind,show(bk==8)=true from g2,Bool.or_true]]at hF
      rw[Bool.or_true]at hF;cases hF;exact .inl rfl
     ·have hn:oO (.mk bk bn bt bl bc)=false:=by unfold oO;rw[Vl.kind,show(bk==7)=false from g1,show(bk==8)=false from g2];rfl
      exact⟨by decide,(),⟨rfl,rfl,rfl,rfl⟩,fun _=>q1 (by omega),fun _=>hn⟩
  ·have h1:j=2:=cm h1 rfl hj (by omega)
   subst h1;rw[q1 (by omega),q2 (by omega)]at hF;clear q1 q2;rw[show(false||false)=false from rfl]at hF;dsimp only[Vl.kind,Vl.num,Vl.text,Vl.args]at hF;refine aj ?_ ?_<;>intro g1<;>conv=>whnf
   ·rw[show(ak==bk)=false by simpa using g1]at hF
    cases hF;exact .inl rfl
   rw[show(ak==bk)=true by simpa using g1]at hF;dsimp only at hF;refine aj ?_ ?_<;>intro g2<;>conv=>whnf
   ·rw[show(!(an==bn))=true from g2,Bool.true_or,Bool.true_or]at hF
    cases hF;exact .inl rfl
   rw[show(!(an==bn))=false from g2,Bool.false_or]at hF;refine aj ?_ ?_<;>intro g3<;>conv=>whnf
   ·rw[show(!(at_.toList==bt.toList))=true from g3,Bool.true_or]at hF
    cases hF;exact .inl rfl
   rw[show(!(at_.toList==bt.toList))=false from g3,Bool.false_or]at hF;refine aj ?_ ?_<;>intro g4<;>conv=>whnf
   ·rw[show(!(((br al).length:Int)==((br bl).length:Int)))=true from g4]at hF
    cases hF;exact .inl rfl
   rw[show(!(((br al).length:Int)==((br bl).length:Int)))=false from g4]at hF;dsimp only at hF
   cases hll:Nat.ble al.length 2000000 with
   |false=>rw[hll]at hF;cases hF
   |true=>
    rw[hll]at hF;dsimp only at hF;have hll:=Nat.le_of_ble_eq_true hll;refine bK (ah _) az (by kernel_rfl) al.length [2,3,58,59] [2,3] (fun j (_:Unit)=>[.ptr 2 0,.ptr 3 0,.p (.i .i64 (br al).length),.p (.i .i64 (ix j))]) (fun _ _=>[.cells (ij [.i .i64 ak,.i .i64 an,.s at_,.sl 5 (br al),eP cS ac]),.cells (ij [.i .i64 bk,.i .i64 bn,.s bt,.sl 5 (br bl),eP cS bc])]) (fun j _=>vf (qV n) (al.drop j) (bl.drop j)=some R) () ⟨rfl,rfl,rfl,rfl⟩ hF ?_;rintro j _ hj hQ;(conv=>whnf);refine aj ?_ ?_<;>intro h1<;>conv=>whnf
    ·have hj1:=cj h1 (by rw[hlen]) hj (by omega)
     obtain⟨u,hu⟩:∃u,al[j]?=some u:=⟨_,List.getElem?_eq_getElem hj1⟩
     rw[drop_cons hu]at hQ
     cases hv:bl[j]? with
     |none=>
      rw[List.drop_eq_nil_of_le (List.getElem?_eq_none_iff.1 hv)]at hQ;cases hQ
     |some x=>
      rw[drop_cons hv,vf]at hQ
      cases hm:qV n u x with
      |none=>rw[hm]at hQ;cases hQ
      |some q=>
       obtain⟨b1,w1⟩:=q;rw[hm]at hQ;have hi:=ih u x _ hm;obtain⟨uk,un,ut,ua,uc⟩:=u;obtain⟨xk,xn,xt,xa,xc⟩:=x;rw[eV,eV]at hi;refine bM (x:=.agg [.i .i64 uk,.i .i64 un,.s ut,.sl 5 (br ua),eP cS uc]) (by rw[aQ];simp[hu,eV]) (by omega) ?_;(conv=>whnf);refine bM (x:=.agg [.i .i64 xk,.i .i64 xn,.s xt,.sl 5 (br xa),eP cS xc]) (by rw[aQ];simp[hv,eV]) (by omega) ?_;(conv=>whnf);refine iX hi ?_;(conv=>whnf);refine ag (.inl (by kernel_rfl)) ?_;(conv=>whnf)
       cases b1 with
       |false=>
        cases hQ;(conv=>whnf);exact .inl rfl
       |true=>
        (conv=>whnf);exact⟨hj1,(),⟨rfl,rfl,rfl,rfl⟩,hQ⟩
    ·have h1:=cm h1 (by rw[hlen]) hj (by omega)
     subst h1;rw[List.drop_length]at hQ;cases hQ;exact .inl rfl
end MN
end
section
open Go Go.AM Go.Proofs TK
set_option maxRecDepth 100000
namespace MN
abbrev nS:Nat:=12
abbrev sS:Nat:=13
abbrev vS:Nat:=14
abbrev rS:Nat:=15
abbrev fS:Nat:=16
abbrev oS:Nat:=17
abbrev mS:Nat:=18
inductive FV where
 |nil
 |blk (k n:Nat)
 |mZ (xs:List Vl)
def mG:FV→PV
 |.nil=>.qZ
 |.blk k n=>.jV vS k n
 |.mZ xs=>.sl 5 (br xs)
structure Fr where
 n:Option Nat
 sc:Option Nat
 vals:FV
 depth:Int
 inFun:Bool
def dU (f:Fr):List PV:=[eP nS f.n,eP sS f.sc,mG f.vals,.i .i64 f.depth,.b f.inFun]
inductive Ov where
 |mk (kind num:Int) (text:ByteArray) (args:List Ov)
mutual
def eO:Ov→PV
 |.mk k n t l=>.agg [.i .i64 k,.i .i64 n,.s t,.sl 4 (gH l)]
def gH:List Ov→List PV
 | []=>[]
 |v::r=>eO v::gH r
end
structure Ou where
 kind:Int
 num:Int
 text:ByteArray
 vk:Int
 vn:Int
 vt:ByteArray
 va:List Ov
 args:List Ov
def zS (o:Ou):List PV:=[.i .i64 o.kind,.i .i64 o.num,.s o.text,.i .i64 o.vk,.i .i64 o.vn,.s o.vt,.sl 4 (gH o.va),.sl 4 (gH o.args)]
def cV:Vl→List PV
 |.mk k n t l c=>[.i .i64 k,.i .i64 n,.s t,.sl 5 (br l),eP cS c]
def Ql:Option (Nat×Nat)→PV
 |none=>.qZ
 |some q=>.jV fS q.1 q.2
structure Rn where
 maker:Nat
 names:List ByteArray
 body:Option Nat
 self:Int
 state:List Vl
 mode:Int
 stack:Option (Nat×Nat)
 cur:Fr
 val:Vl
 last:Ou
 pause:Fr
 out:Option Nat
def cO (r:Rn):List PV:=[.agg (.bG mS r.maker::.sl 1 (r.names.map .s)::eP nS r.body::.i .i64 r.self::.sl 5 (br r.state)::.i .i64 r.mode::Ql r.stack::(dU r.cur++(cV r.val++(zS r.last++(dU r.pause++[eP oS r.out])))))]
def iz (z:bf Rn):bq:=.store 142 true rS z.1 31 (cy cO z.2)
theorem aI {k:Nat} {xs ys:List PV}:∀{M:List (Nat×List PV)},rQ k M=some xs→rQ k (sset k ys M)=some ys
 | [],h=>by cases h
 |(a,zs)::r,h=>by
  rw[rQ]at h;rw[sset]
  cases hb:Nat.beq a k with
  |true=>rw[rQ,hb]
  |false=>rw[hb]at h;rw[rQ,hb];exact aI h
theorem bU (k:Nat) (xs ys:List PV):∀(M:List (Nat×List PV)),sset k ys (sset k xs M)=sset k ys M
 | []=>rfl
 |(a,zs)::r=>by
  rw[sset,sset]
  cases hb:Nat.beq a k with
  |true=>rw[sset,hb]
  |false=>rw[sset,hb,bU k xs ys r]
theorem jg (z:bf Rn) (k:Nat) (v:Vl) (r:Rn) (hr:aJ k z.2=some r):
 av Tryz.prog 230 [.p (.bG rS k),.p (eV v)] [(1000000000,iz z)] (.cz []) [(1000000000,iz (z.1,aV k { r with cur:={ r.cur with n:=none },val:=v } z.2))]:=by
 obtain⟨vk,vn,vt,va,vc⟩:=v;obtain⟨r1,r2,r3,r4,r5,r6,r7,⟨c1,c2,c3,c4,c5⟩,⟨wk,wn,wt,wa,wc⟩,⟨o1,o2,o3,o4,o5,o6,o7,o8⟩,⟨p1,p2,p3,p4,p5⟩,r12⟩:=r;rw[eV];unfold iz;refine av.intro (ah Tryz.prog) az Tryz.func230 rfl (by rfl) (by kernel_rfl) (by show 2≤_;decide) rfl ?_;(conv=>whnf);refine ag ⟨rfl,by decide,.inl rfl⟩ ?_;refine⟨_,aq hr,?_⟩;refine au (i:=0) rfl ?_;(conv=>whnf);refine ag ⟨rfl,by decide,.inl rfl⟩ ?_;refine⟨_,aI (aq hr),?_⟩;refine au (i:=0) rfl ?_;(conv=>whnf);refine ag (.inl (by kernel_rfl)) ?_;(conv=>whnf);refine⟨.inl rfl,⟨⟨rfl,rfl,rfl,rfl,rfl,?_⟩,trivial⟩⟩;rw[bU];exact bL cO k ⟨r1,r2,r3,r4,r5,r6,r7,⟨none,c2,c3,c4,c5⟩,.mk vk vn vt va vc,⟨o1,o2,o3,o4,o5,o6,o7,o8⟩,⟨p1,p2,p3,p4,p5⟩,r12⟩ z.2
noncomputable def Qp:Nat→Option TI:=gK (jJ Tryz.prog) 136 [1,1,0,1,1]
theorem JK:bw Tryz.prog Qp:=(ah Tryz.prog).gK _ _
theorem jq (z:bf Rn) (k n:Nat) (f:Fr) (s:Option Nat) (r:Rn) (hr:aJ k z.2=some r):
 av Tryz.prog 231 [.p (.bG rS k),.p (.bG nS n),.p (.agg (dU f)),.p (eP sS s)] [(1000000000,iz z)] (.cz []) [(1000000000,iz (z.1,aV k { r with cur:=⟨some n,s,.nil,f.depth,f.inFun⟩ } z.2))]:=by
 obtain⟨f1,f2,f3,f4,f5⟩:=f;obtain⟨r1,r2,r3,r4,r5,r6,r7,⟨c1,c2,c3,c4,c5⟩,⟨wk,wn,wt,wa,wc⟩,⟨o1,o2,o3,o4,o5,o6,o7,o8⟩,⟨p1,p2,p3,p4,p5⟩,r12⟩:=r;unfold iz dU;dsimp only
 cases s with
 |none=>
  refine av.intro JK az Tryz.func231 rfl (by rfl) (by kernel_rfl) (by show 4≤_;decide) rfl ?_;(conv=>whnf);refine ag ⟨rfl,by decide,.inl rfl⟩ ?_;refine⟨_,aq hr,?_⟩;refine au (i:=0) rfl ?_;(conv=>whnf);refine⟨.inl rfl,⟨⟨rfl,rfl,rfl,rfl,rfl,?_⟩,trivial⟩⟩;exact bL cO k ⟨r1,r2,r3,r4,r5,r6,r7,⟨some n,none,.nil,f4,f5⟩,.mk wk wn wt wa wc,⟨o1,o2,o3,o4,o5,o6,o7,o8⟩,⟨p1,p2,p3,p4,p5⟩,r12⟩ z.2
 |some s=>
  refine av.intro JK az Tryz.func231 rfl (by rfl) (by kernel_rfl) (by show 4≤_;decide) rfl ?_;(conv=>whnf);refine ag ⟨rfl,by decide,.inl rfl⟩ ?_;refine⟨_,aq hr,?_⟩;refine au (i:=0) rfl ?_;(conv=>whnf);refine⟨.inl rfl,⟨⟨rfl,rfl,rfl,rfl,rfl,?_⟩,trivial⟩⟩;exact bL cO k ⟨r1,r2,r3,r4,r5,r6,r7,⟨some n,(some s),.nil,f4,f5⟩,.mk wk wn wt wa wc,⟨o1,o2,o3,o4,o5,o6,o7,o8⟩,⟨p1,p2,p3,p4,p5⟩,r12⟩ z.2
end MN
end
section
open Go Go.AM Go.Proofs TK
set_option maxRecDepth 100000
namespace MN
def P4 (o:Ou):List PV:=[.agg (zS o)]
def Ck (z:bf Ou):bq:=.store 41 true oS z.1 8 (cy P4 z.2)
theorem sn (a:Nat) (xs:List PV) (M:List (Nat×List PV)):rQ a ((a,xs)::M)=some xs:=by rw[rQ,Nat.beq_refl]
noncomputable def Qg:Nat→Option TI:=hint (gK (jJ Tryz.prog) 133 [0]) 41 [1000003]
theorem MM:bw Tryz.prog Qg:=((ah Tryz.prog).gK _ _).hint _ _
def sy (r:Rn) (o:Ou) (a:Nat):Rn:={ r with mode:=3,last:=o,out:=some a,stack:=none }
theorem An (z:bf Rn) (zo:bf Ou) (k:Nat) (o:Ou) (r:Rn) (hr:aJ k z.2=some r):
 av Tryz.prog 238 [.p (.bG rS k),.p (.agg (zS o))] [(1000000000,iz z),(1000000001,Ck zo)] (.cz []) [(1000000000,iz (z.1,aV k (sy r o zo.1) z.2)),(1000000001,Ck (zo.1+1,(zo.1,o)::zo.2))]:=by
 obtain⟨r1,r2,r3,r4,r5,r6,r7,⟨c1,c2,c3,c4,c5⟩,⟨wk,wn,wt,wa,wc⟩,⟨o1,o2,o3,o4,o5,o6,o7,o8⟩,⟨p1,p2,p3,p4,p5⟩,r12⟩:=r;obtain⟨q1,q2,q3,q4,q5,q6,q7,q8⟩:=o;unfold iz Ck sy zS;dsimp only;refine av.intro MM az Tryz.func238 rfl (by rfl) (by kernel_rfl) (by show 2≤_;decide) rfl ?_;(conv=>whnf);refine ag ⟨rfl,by decide,.inl rfl⟩ ?_;refine⟨_,sn _ _ _,?_⟩;refine au (i:=0) rfl ?_;(conv=>whnf);refine ag ⟨rfl,by decide,.inl rfl⟩ ?_;refine⟨_,aq hr,?_⟩;refine au (i:=0) rfl ?_;(conv=>whnf);refine ag ⟨rfl,by decide,.inl rfl⟩ ?_;refine⟨_,aI (aq hr),?_⟩;refine au (i:=0) rfl ?_;(conv=>whnf);refine ag ⟨rfl,by decide,.inl rfl⟩ ?_;refine⟨_,aI (aI (aq hr)),?_⟩;refine au (i:=0) rfl ?_;(conv=>whnf);refine ag ⟨rfl,by decide,.inl rfl⟩ ?_;refine⟨_,aI (aI (aI (aq hr))),?_⟩;refine au (i:=0) rfl ?_;(conv=>whnf);refine⟨.inl rfl,⟨⟨rfl,rfl,rfl,rfl,rfl,?_⟩,s6,trivial⟩⟩;rw[bU,bU,bU];exact bL cO k ⟨r1,r2,r3,r4,r5,3,none,⟨c1,c2,c3,c4,c5⟩,.mk wk wn wt wa wc,⟨q1,q2,q3,q4,q5,q6,q7,q8⟩,⟨p1,p2,p3,p4,p5⟩,some zo.1⟩ z.2
def Dn (why:ByteArray):Ou:=⟨9,0,why,0,0,⟨#[]⟩,[],[]⟩
theorem cI (z:bf Rn) (zo:bf Ou) (k:Nat) (why:ByteArray) (r:Rn) (hr:aJ k z.2=some r):
 av Tryz.prog 242 [.p (.bG rS k),.p (.s why)] [(1000000000,iz z),(1000000001,Ck zo)] (.cz []) [(1000000000,iz (z.1,aV k (sy r (Dn why) zo.1) z.2)),(1000000001,Ck (zo.1+1,(zo.1,Dn why)::zo.2))]:=by
 have hs:=An z zo k (Dn why) r hr;unfold iz Ck at *;refine av.intro (ah Tryz.prog) az Tryz.func242 rfl (by rfl) (by kernel_rfl) (by show 2≤_;decide) rfl ?_;(conv=>whnf);refine bg [1000000000,1000000001] 300 hs ?_;(conv=>whnf);exact⟨.inl rfl,⟨s6,s6,trivial⟩⟩
end MN
end
section
open Go Go.AM Go.Proofs TK
set_option maxRecDepth 100000
namespace MN
noncomputable def Qm:Nat→Option TI:=hint (jJ Tryz.prog) 41 [1000003]
theorem MG:bw Tryz.prog Qm:=(ah Tryz.prog).hint _ _
def xl (r:Rn) (a:Nat):Rn:={ r with out:=some a,cur:={ r.cur with n:=none },val:=vI 1 0 }
theorem aP {α:Type} (k:Nat) (x:α) (M:List (Nat×α)):aJ k ((k,x)::M)=some x:=by rw[aJ,Nat.beq_refl]
theorem dG {α:Type} (k:Nat) (x y:α) (M:List (Nat×α)):aV k y ((k,x)::M)=(k,y)::M:=by rw[aV,Nat.beq_refl]
theorem cw {α:Type} {k:Nat} {x y:α}:∀{M:List (Nat×α)},aJ k M=some x→aJ k (aV k y M)=some y
 | [],h=>by cases h
 |(a,z)::r,h=>by
  rw[aJ]at h;rw[aV]
  cases hb:Nat.beq a k with
  |true=>rw[aJ,hb]
  |false=>rw[hb]at h;rw[aJ,hb];exact cw h
theorem cP {α:Type} (k:Nat) (x y:α):∀(M:List (Nat×α)),aV k y (aV k x M)=aV k y M
 | []=>rfl
 |(a,z)::r=>by
  rw[aV,aV]
  cases hb:Nat.beq a k with
  |true=>rw[aV,hb]
  |false=>rw[aV,hb,cP k x y r]
theorem kK (z:bf Rn) (zo:bf Ou) (k:Nat) (o:Ou) (r:Rn) (hr:aJ k z.2=some r):
 av Tryz.prog 259 [.p (.bG rS k),.p (.agg (zS o))] [(1000000000,iz z),(1000000001,Ck zo)] (.cz []) [(1000000000,iz (z.1,aV k (xl r zo.1) z.2)),(1000000001,Ck (zo.1+1,(zo.1,o)::zo.2))]:=by
 have hg:=jg (z.1,aV k { r with out:=some zo.1 } z.2) k (vI 1 0) { r with out:=some zo.1 } (cw hr);rw[cP]at hg;have hen:∀M,sset k (cO { r with out:=some zo.1 }) (cy cO M)=cy cO (aV k { r with out:=some zo.1 } M):=fun M=>bL cO k _ M;obtain⟨r1,r2,r3,r4,r5,r6,r7,⟨c1,c2,c3,c4,c5⟩,⟨wk,wn,wt,wa,wc⟩,⟨o1,o2,o3,o4,o5,o6,o7,o8⟩,⟨p1,p2,p3,p4,p5⟩,r12⟩:=r;obtain⟨q1,q2,q3,q4,q5,q6,q7,q8⟩:=o;unfold iz Ck zS xl at *;dsimp only at *;refine av.intro MG az Tryz.func259 rfl (by rfl) (by kernel_rfl) (by show 2≤_;decide) rfl ?_;(conv=>whnf);refine ag ⟨rfl,by decide,.inl rfl⟩ ?_;refine⟨_,aq hr,?_⟩;refine au (i:=0) rfl ?_;(conv=>whnf);refine iX uP ?_;(conv=>whnf);rw[←hen]at hg;refine bg [1000000000] 300 hg ?_;(conv=>whnf);exact⟨.inl rfl,⟨s6,s6,trivial⟩⟩
end MN
end
section
open Go Go.AM Go.Proofs TK
set_option maxRecDepth 100000
namespace MN
noncomputable def Qa:Nat→Option TI:=gK (gK (jJ Tryz.prog) 133 [0]) 136 [1,1,0,1,1]
theorem By:bw Tryz.prog Qa:=((ah Tryz.prog).gK _ _).gK _ _
def BM (r:Rn) (l:List Vl) (s:Option Nat):Rn:={ r with state:=l,stack:=none,mode:=0,cur:=⟨r.body,s,.nil,0,false⟩ }
theorem yx (z:bf Rn) (zs:bf Sc) (k:Nat) (l:List Vl) (r:Rn) (R:bf Sc×Option Nat) (hr:aJ k z.2=some r) (hn:r.names.length≤2000000) (hF:lY r.names l (zs,none)=some R):
 av Tryz.prog 40 [.p (.bG rS k),.p (.sl 5 (br l))] [(1000000000,iz z),(1000000001,zh sS zs)] (.cz []) [(1000000000,iz (z.1,aV k (BM r l R.2) z.2)),(1000000001,zh sS R.1)]:=by
 have hw:=uf sS r.names l (zs,none) R (by omega) hF;obtain⟨r1,r2,r3,r4,r5,r6,r7,⟨c1,c2,c3,c4,c5⟩,⟨wk,wn,wt,wa,wc⟩,⟨o1,o2,o3,o4,o5,o6,o7,o8⟩,⟨p1,p2,p3,p4,p5⟩,r12⟩:=r;obtain⟨R1,R2⟩:=R;unfold iz zh BM at *;dsimp only at *
 cases r3 with
 |none=>
  cases R2 with
  |none=>
   refine av.intro By az Tryz.func40 rfl (by rfl) (by kernel_rfl) (by show 2≤_;decide) rfl ?_;(conv=>whnf);refine ag ⟨rfl,by decide,.inl rfl⟩ ?_;refine⟨_,aq hr,?_⟩;refine au (i:=0) rfl ?_;(conv=>whnf);refine ag ⟨rfl,by decide,.inl rfl⟩ ?_;refine⟨_,aI (aq hr),?_⟩;refine au (i:=0) rfl ?_;(conv=>whnf);refine ag ⟨rfl,by decide,.inl rfl⟩ ?_;refine⟨_,aI (aI (aq hr)),?_⟩;refine au (i:=0) rfl ?_;(conv=>whnf);refine ag ⟨rfl,by decide,.inl rfl⟩ ?_;refine⟨_,aI (aI (aI (aq hr))),?_⟩;refine au (i:=0) rfl ?_;(conv=>whnf);refine ag ⟨rfl,by decide,.inl rfl⟩ ?_;refine⟨_,aI (aI (aI (aq hr))),?_⟩;refine au (i:=0) rfl ?_;(conv=>whnf);refine bg [1000000001] 300 hw ?_;(conv=>whnf);refine ag ⟨rfl,by decide,.inl rfl⟩ ?_;refine⟨_,aI (aI (aI (aq hr))),?_⟩;refine au (i:=0) rfl ?_;(conv=>whnf);refine ag (.inl (by kernel_rfl)) ?_;(conv=>whnf);refine⟨.inl rfl,⟨⟨rfl,rfl,rfl,rfl,rfl,?_⟩,s6,trivial⟩⟩;rw[bU,bU,bU];exact bL cO k ⟨r1,r2,none,r4,l,0,none,⟨none,none,.nil,0,false⟩,.mk wk wn wt wa wc,⟨o1,o2,o3,o4,o5,o6,o7,o8⟩,⟨p1,p2,p3,p4,p5⟩,r12⟩ z.2
  |some s=>
   refine av.intro By az Tryz.func40 rfl (by rfl) (by kernel_rfl) (by show 2≤_;decide) rfl ?_;(conv=>whnf);refine ag ⟨rfl,by decide,.inl rfl⟩ ?_;refine⟨_,aq hr,?_⟩;refine au (i:=0) rfl ?_;(conv=>whnf);refine ag ⟨rfl,by decide,.inl rfl⟩ ?_;refine⟨_,aI (aq hr),?_⟩;refine au (i:=0) rfl ?_;(conv=>whnf);refine ag ⟨rfl,by decide,.inl rfl⟩ ?_;refine⟨_,aI (aI (aq hr)),?_⟩;refine au (i:=0) rfl ?_;(conv=>whnf);refine ag ⟨rfl,by decide,.inl rfl⟩ ?_;refine⟨_,aI (aI (aI (aq hr))),?_⟩;refine au (i:=0) rfl ?_;(conv=>whnf);refine ag ⟨rfl,by decide,.inl rfl⟩ ?_;refine⟨_,aI (aI (aI (aq hr))),?_⟩;refine au (i:=0) rfl ?_;(conv=>whnf);refine bg [1000000001] 300 hw ?_;(conv=>whnf);refine ag ⟨rfl,by decide,.inl rfl⟩ ?_;refine⟨_,aI (aI (aI (aq hr))),?_⟩;refine au (i:=0) rfl ?_;(conv=>whnf);refine ag (.inl (by kernel_rfl)) ?_;(conv=>whnf);refine⟨.inl rfl,⟨⟨rfl,rfl,rfl,rfl,rfl,?_⟩,s6,trivial⟩⟩;rw[bU,bU,bU];exact bL cO k ⟨r1,r2,none,r4,l,0,none,⟨none,(some s),.nil,0,false⟩,.mk wk wn wt wa wc,⟨o1,o2,o3,o4,o5,o6,o7,o8⟩,⟨p1,p2,p3,p4,p5⟩,r12⟩ z.2
 |some b=>
  cases R2 with
  |none=>
   refine av.intro By az Tryz.func40 rfl (by rfl) (by kernel_rfl) (by show 2≤_;decide) rfl ?_;(conv=>whnf);refine ag ⟨rfl,by decide,.inl rfl⟩ ?_;refine⟨_,aq hr,?_⟩;refine au (i:=0) rfl ?_;(conv=>whnf);refine ag ⟨rfl,by decide,.inl rfl⟩ ?_;refine⟨_,aI (aq hr),?_⟩;refine au (i:=0) rfl ?_;(conv=>whnf);refine ag ⟨rfl,by decide,.inl rfl⟩ ?_;refine⟨_,aI (aI (aq hr)),?_⟩;refine au (i:=0) rfl ?_;(conv=>whnf);refine ag ⟨rfl,by decide,.inl rfl⟩ ?_;refine⟨_,aI (aI (aI (aq hr))),?_⟩;refine au (i:=0) rfl ?_;(conv=>whnf);refine ag ⟨rfl,by decide,.inl rfl⟩ ?_;refine⟨_,aI (aI (aI (aq hr))),?_⟩;refine au (i:=0) rfl ?_;(conv=>whnf);refine bg [1000000001] 300 hw ?_;(conv=>whnf);refine ag ⟨rfl,by decide,.inl rfl⟩ ?_;refine⟨_,aI (aI (aI (aq hr))),?_⟩;refine au (i:=0) rfl ?_;(conv=>whnf);refine ag (.inl (by kernel_rfl)) ?_;(conv=>whnf);refine⟨.inl rfl,⟨⟨rfl,rfl,rfl,rfl,rfl,?_⟩,s6,trivial⟩⟩;rw[bU,bU,bU];exact bL cO k ⟨r1,r2,(some b),r4,l,0,none,⟨(some b),none,.nil,0,false⟩,.mk wk wn wt wa wc,⟨o1,o2,o3,o4,o5,o6,o7,o8⟩,⟨p1,p2,p3,p4,p5⟩,r12⟩ z.2
  |some s=>
   refine av.intro By az Tryz.func40 rfl (by rfl) (by kernel_rfl) (by show 2≤_;decide) rfl ?_;(conv=>whnf);refine ag ⟨rfl,by decide,.inl rfl⟩ ?_;refine⟨_,aq hr,?_⟩;refine au (i:=0) rfl ?_;(conv=>whnf);refine ag ⟨rfl,by decide,.inl rfl⟩ ?_;refine⟨_,aI (aq hr),?_⟩;refine au (i:=0) rfl ?_;(conv=>whnf);refine ag ⟨rfl,by decide,.inl rfl⟩ ?_;refine⟨_,aI (aI (aq hr)),?_⟩;refine au (i:=0) rfl ?_;(conv=>whnf);refine ag ⟨rfl,by decide,.inl rfl⟩ ?_;refine⟨_,aI (aI (aI (aq hr))),?_⟩;refine au (i:=0) rfl ?_;(conv=>whnf);refine ag ⟨rfl,by decide,.inl rfl⟩ ?_;refine⟨_,aI (aI (aI (aq hr))),?_⟩;refine au (i:=0) rfl ?_;(conv=>whnf);refine bg [1000000001] 300 hw ?_;(conv=>whnf);refine ag ⟨rfl,by decide,.inl rfl⟩ ?_;refine⟨_,aI (aI (aI (aq hr))),?_⟩;refine au (i:=0) rfl ?_;(conv=>whnf);refine ag (.inl (by kernel_rfl)) ?_;(conv=>whnf);refine⟨.inl rfl,⟨⟨rfl,rfl,rfl,rfl,rfl,?_⟩,s6,trivial⟩⟩;rw[bU,bU,bU];exact bL cO k ⟨r1,r2,(some b),r4,l,0,none,⟨(some b),(some s),.nil,0,false⟩,.mk wk wn wt wa wc,⟨o1,o2,o3,o4,o5,o6,o7,o8⟩,⟨p1,p2,p3,p4,p5⟩,r12⟩ z.2
end MN
end
section
open Go Go.AM Go.Proofs TK
set_option maxRecDepth 100000
namespace MN
abbrev aS:Nat:=19
abbrev bS:Nat:=20
def OQ (sp:Nat):Option (Nat×Nat)→PV
 |none=>.qZ
 |some q=>.jV sp q.1 q.2
def gx:Option (Nat×Nat)→Nat
 |none=>0
 |some q=>q.2
structure Nd where
 kind:Int
 num:Int
 text:ByteArray
 names:List ByteArray
 args:Option (Nat×Nat)
 dR:Option (Nat×Nat)
 needs:Int
 fn:Int
 free:List ByteArray
def cY (n:Nd):List PV:=[.agg [.i .i64 n.kind,.i .i64 n.num,.s n.text,.sl 1 (n.names.map .s),OQ aS n.args,OQ bS n.dR,.i .i64 n.needs,.i .i64 n.fn,.sl 1 (n.free.map .s)]]
def iE (z:bf Nd):bq:=.store 160 true nS z.1 9 (cy cY z.2)
def Fy:ByteArray:=⟨#[97,110,100]⟩
def Pb:ByteArray:=⟨#[111,114]⟩
def gE (n:Nd):Bool:=((n.kind==8)&&((n.text.toList==Fy.toList)||(n.text.toList==Pb.toList)))&&((gx n.args:Int)==2)
theorem qg (z:bf Nd) (k:Nat) (n:Nd) (hn:aJ k z.2=some n):
 av Tryz.prog 252 [.p (.bG nS k)] [(1000000000,iE z)] (.p (.b (gE n))) [(1000000000,iE z)]:=by
 obtain⟨n1,n2,n3,n4,n5,n6,n7,n8,n9⟩:=n;unfold iE gE;dsimp only;refine av.intro (ah Tryz.prog) az Tryz.func252 rfl (by rfl) (by kernel_rfl) (by show 1≤_;decide) rfl ?_;(conv=>whnf);refine ag ⟨rfl,by decide,.inl rfl⟩ ?_;refine⟨_,aq hn,?_⟩;refine au (i:=0) rfl ?_;(conv=>whnf);refine aj ?_ ?_<;>intro h1<;>conv=>whnf
 ·rw[show(n1==8)=true from h1,Bool.true_and]
  refine ag ⟨rfl,by decide,.inl rfl⟩ ?_;refine⟨_,aq hn,?_⟩;refine au (i:=0) rfl ?_;(conv=>whnf);refine aj ?_ ?_<;>intro h2<;>conv=>whnf
  ·rw[show(n3.toList==Fy.toList)=true from h2,Bool.true_or,Bool.true_and]
   cases n5 with
   |none=>
    refine ag ⟨rfl,by decide,.inl rfl⟩ ?_;refine⟨_,aq hn,?_⟩;refine au (i:=0) rfl ?_;(conv=>whnf);exact⟨.inl rfl,⟨s6,trivial⟩⟩
   |some q=>
    refine ag ⟨rfl,by decide,.inl rfl⟩ ?_;refine⟨_,aq hn,?_⟩;refine au (i:=0) rfl ?_;(conv=>whnf);exact⟨.inl rfl,⟨s6,trivial⟩⟩
  ·rw[show(n3.toList==Fy.toList)=false from h2,Bool.false_or]
   refine ag ⟨rfl,by decide,.inl rfl⟩ ?_;refine⟨_,aq hn,?_⟩;refine au (i:=0) rfl ?_;(conv=>whnf);refine aj ?_ ?_<;>intro h3<;>conv=>whnf
   ·rw[show(n3.toList==Pb.toList)=true from h3,Bool.true_and]
    cases n5 with
    |none=>
     refine ag ⟨rfl,by decide,.inl rfl⟩ ?_;refine⟨_,aq hn,?_⟩;refine au (i:=0) rfl ?_;(conv=>whnf);exact⟨.inl rfl,⟨s6,trivial⟩⟩
    |some q=>
     refine ag ⟨rfl,by decide,.inl rfl⟩ ?_;refine⟨_,aq hn,?_⟩;refine au (i:=0) rfl ?_;(conv=>whnf);exact⟨.inl rfl,⟨s6,trivial⟩⟩
   ·rw[show(n3.toList==Pb.toList)=false from h3,Bool.false_and]
    exact⟨.inl rfl,⟨s6,trivial⟩⟩
 ·rw[show(n1==8)=false from h1,Bool.false_and,Bool.false_and]
  exact⟨.inl rfl,⟨s6,trivial⟩⟩
end MN
end
section
open Go Go.AM Go.Proofs TK
set_option maxRecDepth 100000
namespace MN
def gG (n:Nd):Int:=match decide ((gx n.args:Int)<n.needs) with
 |true=>(gx n.args:Int)
 |false=>match ((n.kind==7)||(n.kind==6))||gE n with
  |true=>1
  |false=>n.needs
theorem D9 (z:bf Nd) (k:Nat) (n:Nd) (hn:aJ k z.2=some n):
 av Tryz.prog 224 [.p (.bG nS k)] [(1000000000,iE z)] (.p (.i .i64 (gG n))) [(1000000000,iE z)]:=by
 have hz:=qg z k n hn;generalize hL:gE n=L at hz;obtain⟨n1,n2,n3,n4,n5,n6,n7,n8,n9⟩:=n;unfold iE at *;unfold gG;rw[hL];clear hL;dsimp only
 cases n5 with
 |none=>
  refine av.intro (ah Tryz.prog) az Tryz.func224 rfl (by rfl) (by kernel_rfl) (by show 1≤_;decide) rfl ?_;(conv=>whnf);refine ag ⟨rfl,by decide,.inl rfl⟩ ?_;refine⟨_,aq hn,?_⟩;refine au (i:=0) rfl ?_;(conv=>whnf);refine ag ⟨rfl,by decide,.inl rfl⟩ ?_;refine⟨_,aq hn,?_⟩;refine au (i:=0) rfl ?_;(conv=>whnf);refine ag (.inl (by kernel_rfl)) ?_;(conv=>whnf);refine aj ?_ ?_<;>intro h1<;>conv=>whnf
  ·rw[show decide ((gx none:Int)<n7)=true from h1]
   refine ag ⟨rfl,by decide,.inl rfl⟩ ?_;refine⟨_,aq hn,?_⟩;refine au (i:=0) rfl ?_;(conv=>whnf);exact⟨.inl rfl,⟨s6,trivial⟩⟩
  rw[show decide ((gx none:Int)<n7)=false from h1];refine ag ⟨rfl,by decide,.inl rfl⟩ ?_;refine⟨_,aq hn,?_⟩;refine au (i:=0) rfl ?_;(conv=>whnf);refine aj ?_ ?_<;>intro h2<;>conv=>whnf
  ·rw[show(n1==7)=true from h2,Bool.true_or,Bool.true_or]
   exact⟨.inl rfl,⟨s6,trivial⟩⟩
  rw[show(n1==7)=false from h2,Bool.false_or];refine ag ⟨rfl,by decide,.inl rfl⟩ ?_;refine⟨_,aq hn,?_⟩;refine au (i:=0) rfl ?_;(conv=>whnf);refine aj ?_ ?_<;>intro h3<;>conv=>whnf
  ·rw[show(n1==6)=true from h3,Bool.true_or]
   exact⟨.inl rfl,⟨s6,trivial⟩⟩
  rw[show(n1==6)=false from h3,Bool.false_or];refine bg [1000000000] 300 hz ?_;(conv=>whnf)
  cases L with
  |true=>
   (conv=>whnf);exact⟨.inl rfl,⟨s6,trivial⟩⟩
  |false=>
   (conv=>whnf);refine ag ⟨rfl,by decide,.inl rfl⟩ ?_;refine⟨_,aq hn,?_⟩;refine au (i:=0) rfl ?_;(conv=>whnf);exact⟨.inl rfl,⟨s6,trivial⟩⟩
 |some q=>
  refine av.intro (ah Tryz.prog) az Tryz.func224 rfl (by rfl) (by kernel_rfl) (by show 1≤_;decide) rfl ?_;(conv=>whnf);refine ag ⟨rfl,by decide,.inl rfl⟩ ?_;refine⟨_,aq hn,?_⟩;refine au (i:=0) rfl ?_;(conv=>whnf);refine ag ⟨rfl,by decide,.inl rfl⟩ ?_;refine⟨_,aq hn,?_⟩;refine au (i:=0) rfl ?_;(conv=>whnf);refine ag (.inl (by kernel_rfl)) ?_;(conv=>whnf);refine aj ?_ ?_<;>intro h1<;>conv=>whnf
  ·rw[show decide ((gx (some q):Int)<n7)=true from h1]
   refine ag ⟨rfl,by decide,.inl rfl⟩ ?_;refine⟨_,aq hn,?_⟩;refine au (i:=0) rfl ?_;(conv=>whnf);exact⟨.inl rfl,⟨s6,trivial⟩⟩
  rw[show decide ((gx (some q):Int)<n7)=false from h1];refine ag ⟨rfl,by decide,.inl rfl⟩ ?_;refine⟨_,aq hn,?_⟩;refine au (i:=0) rfl ?_;(conv=>whnf);refine aj ?_ ?_<;>intro h2<;>conv=>whnf
  ·rw[show(n1==7)=true from h2,Bool.true_or,Bool.true_or]
   exact⟨.inl rfl,⟨s6,trivial⟩⟩
  rw[show(n1==7)=false from h2,Bool.false_or];refine ag ⟨rfl,by decide,.inl rfl⟩ ?_;refine⟨_,aq hn,?_⟩;refine au (i:=0) rfl ?_;(conv=>whnf);refine aj ?_ ?_<;>intro h3<;>conv=>whnf
  ·rw[show(n1==6)=true from h3,Bool.true_or]
   exact⟨.inl rfl,⟨s6,trivial⟩⟩
  rw[show(n1==6)=false from h3,Bool.false_or];refine bg [1000000000] 300 hz ?_;(conv=>whnf)
  cases L with
  |true=>
   (conv=>whnf);exact⟨.inl rfl,⟨s6,trivial⟩⟩
  |false=>
   (conv=>whnf);refine ag ⟨rfl,by decide,.inl rfl⟩ ?_;refine⟨_,aq hn,?_⟩;refine au (i:=0) rfl ?_;(conv=>whnf);exact⟨.inl rfl,⟨s6,trivial⟩⟩
end MN
end
section
open Go Go.AM Go.Proofs TK
set_option maxRecDepth 100000
namespace MN
def qF (l:List Nat):List PV:=l.map (.bG nS)
def yX (z:bf (List Nat)):bq:=.store 110 false aS z.1 1 (cy qF z.2)
def ju (za:bf (List Nat)) (n:Nd) (j:Nat):Option Nat:=match n.args with
 |none=>none
 |some q=>match Nat.blt j q.2 with
  |false=>none
  |true=>match aJ q.1 za.2 with
   |none=>none
   |some l=>l[j]?
def jD (r:Rn) (j:Nat) (f:Fr) (s:Option Nat):Rn:={ r with cur:=⟨some j,s,.nil,f.depth,f.inFun⟩ }
end MN
end
