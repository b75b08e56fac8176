/- Contracts, and the law, for every input. No conditions. -/
import Derived.Test.YtdmopjgjhfhfdaaGreatDoorMN5
set_option linter.all false
section
open Go Go.AM Go.Proofs TK
set_option maxRecDepth 100000
namespace MN
def N2 (M:List (Nat×Cl)) (c:Option Nat) (a:Nat):Option Bool:=match c with
 |none=>some false
 |some b=>match aK b M with
  |none=>none
  |some _=>match aK a M with
   |none=>none
   |some _=>some (Nat.beq b a)
def mT (f:Vl→Option Bool):List Vl→Option Bool
 | []=>some false
 |v::r=>match f v with
  |none=>none
  |some true=>some true
  |some false=>mT f r
def Vl.cell:Vl→Option Nat
 |.mk _ _ _ _ c=>c
def gZ (M:List (Nat×Cl)) (a:Nat):Nat→Vl→Option Bool
 |0,_=>none
 |n+1,v=>match N2 M v.cell a with
  |none=>none
  |some true=>some true
  |some false=>match eu M v with
   |none=>none
   |some l=>match decide (l.length≤2000000) with
    |false=>none
    |true=>mT (gZ M a n) l
theorem yq (z:bf Cl) (a:Nat):∀(n:Nat) (v:Vl) (b:Bool),gZ z.2 a n v=some b→
 av Tryz.prog 271 [.p (eV v),.p (.bH cS a)] [(1000000000,kH z)] (.p (.b b)) [(1000000000,kH z)]
 |0,_,_,hF=>by cases hF
 |n+1,v,b,hF=>by
  have ih:=yq z a n;unfold gZ at hF;obtain⟨vk,vn,vt,va,vc⟩:=v;rw[eV];have hp:=nF z (.mk vk vn vt va vc);rw[eV]at hp;unfold kH at *;rw[Vl.cell]at hF
  have main:(match eu z.2 (.mk vk vn vt va vc) with|none=>none|some l=>match decide (l.length≤2000000) with|false=>none|true=>mT (gZ z.2 a n) l)=some b→
   ∀R:List Vl,eu z.2 (.mk vk vn vt va vc)=some R→R.length≤2000000∧mT (gZ z.2 a n) R=some b:=fun h R hR=>by
   rw[hR]at h;dsimp only at h;split at h
   ·cases h
   ·rename_i q;exact⟨of_decide_eq_true q,h⟩
  have some_:(match eu z.2 (.mk vk vn vt va vc) with|none=>none|some l=>match decide (l.length≤2000000) with|false=>none|true=>mT (gZ z.2 a n) l)=some b→∃R,eu z.2 (.mk vk vn vt va vc)=some R:=fun h=>by
   cases hq:eu z.2 (.mk vk vn vt va vc) with
   |none=>rw[hq]at h;cases h
   |some R=>exact⟨R,rfl⟩
  refine av.intro (ah Tryz.prog) aC Tryz.func271 rfl (by rfl) (by kernel_rfl) (by show 2≤_;decide) rfl ?_;(conv=>whnf)
  cases vc with
  |none=>
   (conv=>whnf);rw[show N2 z.2 none a=some false from rfl]at hF;dsimp only at hF;obtain⟨R,hR⟩:=some_ hF;obtain⟨hRl,hQ0⟩:=main hF R hR;have hp:=hp R hR;clear main some_ hF;have hlen:(bu R).length=R.length:=by rw[aR];simp
   (conv=>whnf);refine bh [1000000000] 300 hp ?_;(conv=>whnf);refine bL (ah _) aC (by kernel_rfl) R.length [1,12,13,14] [1000000000] (fun j (_:Unit)=>[.p (.bH cS a),.p (.sl 5 (bu R)),.p (.i .i64 (bu R).length),.p (.i .i64 (ix j))]) (fun _ _=>[.store 212 true cS z.1 6 (cC zG z.2)]) (fun j _=>mT (gZ z.2 a n) (R.drop j)=some b) () ⟨rfl,rfl,rfl,rfl⟩ hQ0 ?_;rintro j _ hj hQ;(conv=>whnf);refine aj ?_ ?_<;>intro h1<;>conv=>whnf
   ·have hj1:=cm h1 (by rw[hlen]) hj (by omega)
    obtain⟨u,hu⟩:∃u,R[j]?=some u:=⟨_,List.getElem?_eq_getElem hj1⟩
    rw[drop_cons hu,mT]at hQ
    cases hm:gZ z.2 a n u with
    |none=>rw[hm]at hQ;cases hQ
    |some b1=>
     rw[hm]at hQ;have hi:=ih u b1 hm;obtain⟨uk,un,ut,ua,uc⟩:=u;rw[eV]at hi;refine bO (x:=.agg [.i .i64 uk,.i .i64 un,.s ut,.sl 5 (bu ua),eP cS uc]) (by rw[aR];simp[hu,eV]) (by omega) ?_;(conv=>whnf);refine bh [1000000000] 300 hi ?_;(conv=>whnf)
     cases b1 with
     |true=>
      cases hQ;(conv=>whnf);exact⟨.inl rfl,⟨s6,trivial⟩⟩
     |false=>
      (conv=>whnf);exact⟨hj1,(),⟨rfl,rfl,rfl,rfl⟩,hQ⟩
   ·have h1:=cq h1 (by rw[hlen]) hj (by omega)
    subst h1;rw[List.drop_length]at hQ;cases hQ;exact⟨.inl rfl,⟨s6,trivial⟩⟩
  |some k=>
   unfold N2 at hF;dsimp only at hF
   cases hk:aK k z.2 with
   |none=>rw[hk]at hF;cases hF
   |some ck=>
    rw[hk]at hF
    cases ha:aK a z.2 with
    |none=>rw[ha]at hF;cases hF
    |some ca=>
     rw[ha]at hF;dsimp only at hF;(conv=>whnf);refine ag ⟨rfl,rfl,by decide,by rw[aq hk];rfl,by rw[aq ha];rfl⟩ ?_;(conv=>whnf);refine aj ?_ ?_<;>intro h0<;>conv=>whnf
     ·rw[show Nat.beq k a=true from h0]at hF
      cases hF;exact⟨.inl rfl,⟨s6,trivial⟩⟩
     ·rw[show Nat.beq k a=false from h0]at hF
      dsimp only at hF;obtain⟨R,hR⟩:=some_ hF;obtain⟨hRl,hQ0⟩:=main hF R hR;have hp:=hp R hR;clear main some_ hF;have hlen:(bu R).length=R.length:=by rw[aR];simp
      (conv=>whnf);refine bh [1000000000] 300 hp ?_;(conv=>whnf);refine bL (ah _) aC (by kernel_rfl) R.length [1,12,13,14] [1000000000] (fun j (_:Unit)=>[.p (.bH cS a),.p (.sl 5 (bu R)),.p (.i .i64 (bu R).length),.p (.i .i64 (ix j))]) (fun _ _=>[.store 212 true cS z.1 6 (cC zG z.2)]) (fun j _=>mT (gZ z.2 a n) (R.drop j)=some b) () ⟨rfl,rfl,rfl,rfl⟩ hQ0 ?_;rintro j _ hj hQ;(conv=>whnf);refine aj ?_ ?_<;>intro h1<;>conv=>whnf
      ·have hj1:=cm h1 (by rw[hlen]) hj (by omega)
       obtain⟨u,hu⟩:∃u,R[j]?=some u:=⟨_,List.getElem?_eq_getElem hj1⟩
       rw[drop_cons hu,mT]at hQ
       cases hm:gZ z.2 a n u with
       |none=>rw[hm]at hQ;cases hQ
       |some b1=>
        rw[hm]at hQ;have hi:=ih u b1 hm;obtain⟨uk,un,ut,ua,uc⟩:=u;rw[eV]at hi;refine bO (x:=.agg [.i .i64 uk,.i .i64 un,.s ut,.sl 5 (bu ua),eP cS uc]) (by rw[aR];simp[hu,eV]) (by omega) ?_;(conv=>whnf);refine bh [1000000000] 300 hi ?_;(conv=>whnf)
        cases b1 with
        |true=>
         cases hQ;(conv=>whnf);exact⟨.inl rfl,⟨s6,trivial⟩⟩
        |false=>
         (conv=>whnf);exact⟨hj1,(),⟨rfl,rfl,rfl,rfl⟩,hQ⟩
      ·have h1:=cq h1 (by rw[hlen]) hj (by omega)
       subst h1;rw[List.drop_length]at hQ;cases hQ;exact⟨.inl rfl,⟨s6,trivial⟩⟩
end MN
end
section
open Go Go.AM Go.Proofs TK
set_option maxRecDepth 100000
namespace MN
noncomputable def Qs:Nat→Option TI:=hint (jQ Tryz.prog) 212 [1000018]
theorem Nk:bz Tryz.prog Qs:=(ah Tryz.prog).hint _ _
def kQ:ByteArray:=⟨#[108,97,114,103,101]⟩
def cG:ByteArray:=⟨#[116,121,112,101]⟩
def JT:ByteArray:=⟨#[103,111,110,101]⟩
def FU (z:bf Cl) (v x:Vl):Option (ByteArray×bf Cl):=match v with
 |.mk k _ _ _ c=>match k==8 with
  |false=>some (cG,z)
  |true=>match c with
   |none=>none
   |some a=>match aK a z.2 with
    |none=>none
    |some q=>match q.gone with
     |true=>some (JT,z)
     |false=>match iX ((z.1,⟨false,x⟩)::z.2) (.mk 8 0 ⟨#[]⟩ [] (some z.1)) with
      |none=>none
      |some true=>some (kQ,(z.1+1,(z.1,⟨false,x⟩)::z.2))
      |some false=>match gZ ((z.1,⟨false,x⟩)::z.2) a 45 x with
       |none=>none
       |some true=>some (kQ,(z.1+1,(z.1,⟨false,x⟩)::z.2))
       |some false=>match aK a ((z.1,(⟨false,x⟩:Cl))::z.2) with
        |none=>none
        |some q2=>some (⟨#[]⟩,(z.1+1,aW a ⟨q2.gone,x⟩ ((z.1,⟨false,x⟩)::z.2)))
theorem JA (z:bf Cl) (v x:Vl) (R:ByteArray×bf Cl) (hF:FU z v x=some R):
 av Tryz.prog 267 [.p (eV v),.p (eV x)] [(1000000000,kH z)] (.p (.s R.1)) [(1000000000,kH R.2)]:=by
 unfold FU at hF;obtain⟨k,n,t,l,c⟩:=v;obtain⟨xk,xn,xt,xa,xc⟩:=x;dsimp only at hF;have hs:=fun b=>nC (z.1+1,(z.1,⟨false,.mk xk xn xt xa xc⟩)::z.2) (.mk 8 0 ⟨#[]⟩ [] (some z.1)) b;have hh:=fun a b=>yq (z.1+1,(z.1,⟨false,.mk xk xn xt xa xc⟩)::z.2) a 45 (.mk xk xn xt xa xc) b;rw[eV,eV];rw[eV]at hs hh;unfold kH at *;refine av.intro Nk aC Tryz.func267 rfl (by rfl) (by kernel_rfl) (by show 2≤_;decide) rfl ?_;(conv=>whnf);refine aj ?_ ?_<;>intro h1<;>conv=>whnf
 ·rw[show(k==8)=false by simpa using h1]at hF
  cases hF;exact⟨.inl rfl,⟨s6,trivial⟩⟩
 ·rw[show(k==8)=true by simpa using h1]at hF
  cases c with
  |none=>cases hF
  |some a=>
   dsimp only at hF
   cases hc:aK a z.2 with
   |none=>rw[hc]at hF;cases hF
   |some q=>
    rw[hc]at hF;obtain⟨g,⟨vk,vn,vt,va,vc⟩⟩:=q;(conv=>whnf);refine ag ⟨rfl,by decide,.inl rfl⟩ ?_;refine⟨_,aq hc,?_⟩;refine au (i:=0) rfl ?_;(conv=>whnf)
    cases g with
    |true=>
     cases hF;(conv=>whnf);exact⟨.inl rfl,⟨s6,trivial⟩⟩
    |false=>
     dsimp only at hF;(conv=>whnf)
     cases hl:iX ((z.1,⟨false,.mk xk xn xt xa xc⟩)::z.2) (.mk 8 0 ⟨#[]⟩ [] (some z.1)) with
     |none=>rw[hl]at hF;cases hF
     |some b1=>
      rw[hl]at hF;refine bh [1000000000] 300 (hs b1 hl) ?_;(conv=>whnf)
      cases b1 with
      |true=>
       cases hF;(conv=>whnf);exact⟨.inl rfl,⟨s6,trivial⟩⟩
      |false=>
       dsimp only at hF;(conv=>whnf)
       cases ho:gZ ((z.1,⟨false,.mk xk xn xt xa xc⟩)::z.2) a 45 (.mk xk xn xt xa xc) with
       |none=>rw[ho]at hF;cases hF
       |some b2=>
        rw[ho]at hF;refine bh [1000000000] 300 (hh a b2 ho) ?_;(conv=>whnf)
        cases b2 with
        |true=>
         cases hF;(conv=>whnf);exact⟨.inl rfl,⟨s6,trivial⟩⟩
        |false=>
         dsimp only at hF
         cases hc2:aK a ((z.1,(⟨false,.mk xk xn xt xa xc⟩:Cl))::z.2) with
         |none=>rw[hc2]at hF;cases hF
         |some q2=>
          rw[hc2]at hF;cases hF;obtain⟨g2,⟨wk,wn,wt,wa,wc⟩⟩:=q2;(conv=>whnf);refine ag ⟨rfl,by decide,.inl rfl⟩ ?_;refine⟨_,aq (enc:=zG) hc2,?_⟩;refine au (i:=0) rfl ?_;(conv=>whnf);refine⟨.inl rfl,⟨⟨rfl,rfl,rfl,rfl,rfl,?_⟩,trivial⟩⟩;exact bM zG a ⟨g2,.mk xk xn xt xa xc⟩ ((z.1,⟨false,.mk xk xn xt xa xc⟩)::z.2)
end MN
end
section
open Go Go.AM Go.Proofs TK
set_option maxRecDepth 100000
namespace MN
abbrev vI (k n:Int):Vl:=.mk k n ⟨#[]⟩ [] none
theorem ve:aV Tryz.prog 261 [] (.p (eV (vI 1 0))):=by
 refine aV.intro (ah Tryz.prog) aC Tryz.func261 rfl (by rfl) (by kernel_rfl) (by show 0≤_;decide) rfl ?_;(conv=>whnf);exact .inl rfl
theorem mR (n:Int):aV Tryz.prog 262 [.p (.i .i64 n)] (.p (eV (vI 2 n))):=by
 refine aV.intro (ah Tryz.prog) aC Tryz.func262 rfl (by rfl) (by kernel_rfl) (by show 1≤_;decide) rfl ?_;(conv=>whnf);exact .inl rfl
theorem Ke (n:Int):aV Tryz.prog 264 [.p (.i .i64 n)] (.p (eV (vI 6 n))):=by
 refine aV.intro (ah Tryz.prog) aC Tryz.func264 rfl (by rfl) (by kernel_rfl) (by show 1≤_;decide) rfl ?_;(conv=>whnf);exact .inl rfl
def bI:Bool→Int
 |true=>1
 |false=>0
theorem qd (b:Bool):aV Tryz.prog 263 [.p (.b b)] (.p (eV (vI 3 (bI b)))):=by
 cases b with
 |true=>
  refine aV.intro (ah Tryz.prog) aC Tryz.func263 rfl (by rfl) (by kernel_rfl) (by show 1≤_;decide) rfl ?_;(conv=>whnf);exact .inl rfl
 |false=>
  refine aV.intro (ah Tryz.prog) aC Tryz.func263 rfl (by rfl) (by kernel_rfl) (by show 1≤_;decide) rfl ?_;(conv=>whnf);exact .inl rfl
def oL (k:Int):ByteArray:=match k==1 with
 |true=>⟨#[117,110,105,116]⟩
 |false=>match k==2 with
  |true=>⟨#[105,110,116]⟩
  |false=>match k==3 with
   |true=>⟨#[98,111,111,108]⟩
   |false=>match k==4 with
    |true=>⟨#[116,101,120,116]⟩
    |false=>⟨#[]⟩
theorem EU (k:Int):aV Tryz.prog 270 [.p (.i .i64 k)] (.p (.s (oL k))):=by
 unfold oL;refine aV.intro (ah Tryz.prog) aC Tryz.func270 rfl (by rfl) (by kernel_rfl) (by show 1≤_;decide) rfl ?_;(conv=>whnf);refine aj ?_ ?_<;>intro h1<;>conv=>whnf
 ·rw[show(k==1)=true from h1];exact .inl rfl
 rw[show(k==1)=false from h1];refine aj ?_ ?_<;>intro h2<;>conv=>whnf
 ·rw[show(k==2)=true from h2];exact .inl rfl
 rw[show(k==2)=false from h2];refine aj ?_ ?_<;>intro h3<;>conv=>whnf
 ·rw[show(k==3)=true from h3];exact .inl rfl
 rw[show(k==3)=false from h3];refine aj ?_ ?_<;>intro h4<;>conv=>whnf
 ·rw[show(k==4)=true from h4];exact .inl rfl
 rw[show(k==4)=false from h4];exact .inl rfl
def OL:ByteArray:=⟨#[122,101,114,111]⟩
def cO (s:ByteArray) (c:UInt8):Bool:=s.toList==(⟨#[c]⟩:ByteArray).toList
def oo (op:ByteArray) (a b:Int):Vl×ByteArray:=match cO op 43 with
 |true=>(vI 2 (IntKind.i64.wrap (a+b)),⟨#[]⟩)
 |false=>match cO op 45 with
  |true=>(vI 2 (IntKind.i64.wrap (a-b)),⟨#[]⟩)
  |false=>match cO op 42 with
   |true=>(vI 2 (IntKind.i64.wrap (a*b)),⟨#[]⟩)
   |false=>match b==0 with
    |true=>(zV,OL)
    |false=>match cO op 47 with
     |true=>(vI 2 (IntKind.i64.wrap (a.tdiv b)),⟨#[]⟩)
     |false=>(vI 2 (a.tmod b),⟨#[]⟩)
theorem EL (op:ByteArray) (a b:Int):aV Tryz.prog 269 [.p (.s op),.p (.i .i64 a),.p (.i .i64 b)] (.cA [.p (eV (oo op a b).1),.p (.s (oo op a b).2)]):=by
 unfold oo;refine aV.intro (ah Tryz.prog) aC Tryz.func269 rfl (by rfl) (by kernel_rfl) (by show 3≤_;decide) rfl ?_;(conv=>whnf);refine aj ?_ ?_<;>intro h1<;>conv=>whnf
 ·rw[show cO op 43=true from h1]
  refine jA (mR _) ?_;(conv=>whnf);exact .inl rfl
 rw[show cO op 43=false from h1];refine aj ?_ ?_<;>intro h2<;>conv=>whnf
 ·rw[show cO op 45=true from h2]
  refine jA (mR _) ?_;(conv=>whnf);exact .inl rfl
 rw[show cO op 45=false from h2];refine aj ?_ ?_<;>intro h3<;>conv=>whnf
 ·rw[show cO op 42=true from h3]
  refine jA (mR _) ?_;(conv=>whnf);exact .inl rfl
 rw[show cO op 42=false from h3];refine aj ?_ ?_<;>intro h4<;>conv=>whnf
 ·rw[show(b==0)=true from h4]
  exact .inl rfl
 rw[show(b==0)=false from h4];have hb:b≠0:=fun q=>by subst q;exact absurd h4 (by decide)
 refine aj ?_ ?_<;>intro h5<;>conv=>whnf
 ·rw[show cO op 47=true from h5]
  refine ag ⟨rfl,hb⟩ ?_;(conv=>whnf);refine jA (mR _) ?_;(conv=>whnf);exact .inl rfl
 rw[show cO op 47=false from h5];refine ag ⟨rfl,hb⟩ ?_;(conv=>whnf);refine jA (mR _) ?_;(conv=>whnf);exact .inl rfl
end MN
end
section
open Go Go.AM Go.Proofs TK
set_option maxRecDepth 100000
namespace MN
def Vl.kind:Vl→Int
 |.mk k _ _ _ _=>k
def Vl.num:Vl→Int
 |.mk _ n _ _ _=>n
def Vl.text:Vl→ByteArray
 |.mk _ _ t _ _=>t
def Vl.args:Vl→List Vl
 |.mk _ _ _ l _=>l
mutual
def lE:Vl→Nat
 |.mk _ _ _ l _=>qT l+1
def qT:List Vl→Nat
 | []=>0
 |v::r=>max (lE v) (qT r)
end
def pP (v:Vl):Bool:=(v.kind==7)||(v.kind==8)
def vH (f:Vl→Vl→Option (Bool×ByteArray)):List Vl→List Vl→Option (Bool×ByteArray)
 | [],_=>some (true,⟨#[]⟩)
 |_::_,[]=>none
 |a::r,b::s=>match f a b with
  |none=>none
  |some (false,w)=>some (false,w)
  |some (true,_)=>vH f r s
def qV:Nat→Vl→Vl→Option (Bool×ByteArray)
 |0,_,_=>none
 |n+1,a,b=>match pP a||pP b with
  |true=>some (false,cG)
  |false=>match a.kind==b.kind with
   |false=>some (false,cG)
   |true=>match !(a.num==b.num)||!(a.text.toList==b.text.toList)||!(((bu a.args).length:Int)==((bu b.args).length:Int)) with
    |true=>some (false,⟨#[]⟩)
    |false=>match Nat.ble a.args.length 2000000 with
     |false=>none
     |true=>vH (qV n) a.args b.args
theorem AF:∀(n:Nat) (a b:Vl) (R:Bool×ByteArray),qV n a b=some R→aV Tryz.prog 268 [.p (eV a),.p (eV b)] (.cA [.p (.b R.1),.p (.s R.2)])
 |0,_,_,_,hF=>by cases hF
 |n+1,a,b,R,hF=>by
  have ih:=AF n;unfold qV at hF;obtain⟨ak,an,at_,al,ac⟩:=a;obtain⟨bk,bn,bt,bl,bc⟩:=b;rw[eV,eV];have hlen:(bu al).length=al.length:=by rw[aR];simp
  generalize hA:PV.agg [.i .i64 ak,.i .i64 an,.s at_,.sl 5 (bu al),eP cS ac]=pa;generalize hB:PV.agg [.i .i64 bk,.i .i64 bn,.s bt,.sl 5 (bu bl),eP cS bc]=pb;subst hA;subst hB;refine aV.intro (ah Tryz.prog) aC Tryz.func268 rfl (by rfl) (by kernel_rfl) (by show 2≤_;decide) rfl ?_;(conv=>whnf);refine bL (ah _) aC (by kernel_rfl) 2 [2,3,13,14,15] [2,3] (fun j (_:Unit)=>[.ptr 2 0,.ptr 3 0,.so 5 ([.agg [.i .i64 ak,.i .i64 an,.s at_,.sl 5 (bu al),eP cS ac],.agg [.i .i64 bk,.i .i64 bn,.s bt,.sl 5 (bu bl),eP cS bc]]),.p (.i .i64 2),.p (.i .i64 (ix j))]) (fun _ _=>[.cells (gY [.i .i64 ak,.i .i64 an,.s at_,.sl 5 (bu al),eP cS ac]),.cells (gY [.i .i64 bk,.i .i64 bn,.s bt,.sl 5 (bu bl),eP cS bc])]) (fun j _=>(1≤j→pP (.mk ak an at_ al ac)=false)∧(2≤j→pP (.mk bk bn bt bl bc)=false)) () ⟨rfl,rfl,rfl,rfl⟩ ⟨by omega,by omega⟩ ?_;rintro j _ hj ⟨q1,q2⟩;(conv=>whnf);refine aj ?_ ?_<;>intro h1<;>conv=>whnf
  ·have hj1:j<2:=cm h1 rfl hj (by omega)
   match j,hj1 with
   |0,_=>
    refine bO (x:=.agg [.i .i64 ak,.i .i64 an,.s at_,.sl 5 (bu al),eP cS ac]) rfl (by omega) ?_;(conv=>whnf);refine aj ?_ ?_<;>intro g1<;>conv=>whnf
    ·rw[show pP (.mk ak an at_ al ac)=true by unfold pP;rw[Vl.kind,show(ak==7)=true from g1];rfl]at hF
     rw[Bool.true_or]at hF;cases hF;exact .inl rfl
    ·refine aj ?_ ?_<;>intro g2<;>conv=>whnf
     ·rw[show pP (.mk ak an at_ al ac)=true by unfold pP;rw[Vl.kind,show(ak==8)=true from g2,Bool.or_true]]at hF
      rw[Bool.true_or]at hF;cases hF;exact .inl rfl
     ·have hn:pP (.mk ak an at_ al ac)=false:=by unfold pP;rw[Vl.kind,show(ak==7)=false from g1,show(ak==8)=false from g2];rfl
      exact⟨by decide,(),⟨rfl,rfl,rfl,rfl⟩,fun _=>hn,by omega⟩
   |1,_=>
    refine bO (x:=.agg [.i .i64 bk,.i .i64 bn,.s bt,.sl 5 (bu bl),eP cS bc]) rfl (by omega) ?_;(conv=>whnf);refine aj ?_ ?_<;>intro g1<;>conv=>whnf
    ·rw[show pP (.mk bk bn bt bl bc)=true by unfold pP;rw[Vl.kind,show(bk==7)=true from g1];rfl]at hF
     rw[Bool.or_true]at hF;cases hF;exact .inl rfl
    ·refine aj ?_ ?_<;>intro g2<;>conv=>whnf
     ·rw[show pP (.mk bk bn bt bl bc)=true by unfold pP;rw[Vl.kind,show(bk==8)=true from g2,Bool.or_true]]at hF
      rw[Bool.or_true]at hF;cases hF;exact .inl rfl
     ·have hn:pP (.mk bk bn bt bl bc)=false:=by unfold pP;rw[Vl.kind,show(bk==7)=false from g1,show(bk==8)=false from g2];rfl
      exact⟨by decide,(),⟨rfl,rfl,rfl,rfl⟩,fun _=>q1 (by omega),fun _=>hn⟩
  ·have h1:j=2:=cq h1 rfl hj (by omega)
   subst h1;rw[q1 (by omega),q2 (by omega)]at hF;clear q1 q2;rw[show(false||false)=false from rfl]at hF;dsimp only[Vl.kind,Vl.num,Vl.text,Vl.args]at hF;refine aj ?_ ?_<;>intro g1<;>conv=>whnf
   ·rw[show(ak==bk)=false by simpa using g1]at hF
    cases hF;exact .inl rfl
   rw[show(ak==bk)=true by simpa using g1]at hF;dsimp only at hF;refine aj ?_ ?_<;>intro g2<;>conv=>whnf
   ·rw[show(!(an==bn))=true from g2,Bool.true_or,Bool.true_or]at hF
    cases hF;exact .inl rfl
   rw[show(!(an==bn))=false from g2,Bool.false_or]at hF;refine aj ?_ ?_<;>intro g3<;>conv=>whnf
   ·rw[show(!(at_.toList==bt.toList))=true from g3,Bool.true_or]at hF
    cases hF;exact .inl rfl
   rw[show(!(at_.toList==bt.toList))=false from g3,Bool.false_or]at hF;refine aj ?_ ?_<;>intro g4<;>conv=>whnf
   ·rw[show(!(((bu al).length:Int)==((bu bl).length:Int)))=true from g4]at hF
    cases hF;exact .inl rfl
   rw[show(!(((bu al).length:Int)==((bu bl).length:Int)))=false from g4]at hF;dsimp only at hF
   cases hll:Nat.ble al.length 2000000 with
   |false=>rw[hll]at hF;cases hF
   |true=>
    rw[hll]at hF;dsimp only at hF;have hll:=Nat.le_of_ble_eq_true hll;refine bL (ah _) aC (by kernel_rfl) al.length [2,3,58,59] [2,3] (fun j (_:Unit)=>[.ptr 2 0,.ptr 3 0,.p (.i .i64 (bu al).length),.p (.i .i64 (ix j))]) (fun _ _=>[.cells (gY [.i .i64 ak,.i .i64 an,.s at_,.sl 5 (bu al),eP cS ac]),.cells (gY [.i .i64 bk,.i .i64 bn,.s bt,.sl 5 (bu bl),eP cS bc])]) (fun j _=>vH (qV n) (al.drop j) (bl.drop j)=some R) () ⟨rfl,rfl,rfl,rfl⟩ hF ?_;rintro j _ hj hQ;(conv=>whnf);refine aj ?_ ?_<;>intro h1<;>conv=>whnf
    ·have hj1:=cm h1 (by rw[hlen]) hj (by omega)
     obtain⟨u,hu⟩:∃u,al[j]?=some u:=⟨_,List.getElem?_eq_getElem hj1⟩
     rw[drop_cons hu]at hQ
     cases hv:bl[j]? with
     |none=>
      rw[List.drop_eq_nil_of_le (List.getElem?_eq_none_iff.1 hv)]at hQ;cases hQ
     |some x=>
      rw[drop_cons hv,vH]at hQ
      cases hm:qV n u x with
      |none=>rw[hm]at hQ;cases hQ
      |some q=>
       obtain⟨b1,w1⟩:=q;rw[hm]at hQ;have hi:=ih u x _ hm;obtain⟨uk,un,ut,ua,uc⟩:=u;obtain⟨xk,xn,xt,xa,xc⟩:=x;rw[eV,eV]at hi;refine bO (x:=.agg [.i .i64 uk,.i .i64 un,.s ut,.sl 5 (bu ua),eP cS uc]) (by rw[aR];simp[hu,eV]) (by omega) ?_;(conv=>whnf);refine bO (x:=.agg [.i .i64 xk,.i .i64 xn,.s xt,.sl 5 (bu xa),eP cS xc]) (by rw[aR];simp[hv,eV]) (by omega) ?_;(conv=>whnf);refine jA hi ?_;(conv=>whnf);refine ag (.inl (by kernel_rfl)) ?_;(conv=>whnf)
       cases b1 with
       |false=>
        cases hQ;(conv=>whnf);exact .inl rfl
       |true=>
        (conv=>whnf);exact⟨hj1,(),⟨rfl,rfl,rfl,rfl⟩,hQ⟩
    ·have h1:=cq h1 (by rw[hlen]) hj (by omega)
     subst h1;rw[List.drop_length]at hQ;cases hQ;exact .inl rfl
end MN
end
section
open Go Go.AM Go.Proofs TK
set_option maxRecDepth 100000
namespace MN
abbrev nS:Nat:=12
abbrev sS:Nat:=13
abbrev vS:Nat:=14
abbrev rS:Nat:=15
abbrev fS:Nat:=16
abbrev oS:Nat:=17
abbrev mS:Nat:=18
inductive FV where
 |nil
 |blk (k n:Nat)
 |nA (xs:List Vl)
def mJ:FV→PV
 |.nil=>.sj
 |.blk k n=>.jR vS k n
 |.nA xs=>.sl 5 (bu xs)
structure Fr where
 n:Option Nat
 sc:Option Nat
 vals:FV
 depth:Int
 inFun:Bool
def dX (f:Fr):List PV:=[eP nS f.n,eP sS f.sc,mJ f.vals,.i .i64 f.depth,.b f.inFun]
inductive Ov where
 |mk (kind num:Int) (text:ByteArray) (args:List Ov)
mutual
def eO:Ov→PV
 |.mk k n t l=>.agg [.i .i64 k,.i .i64 n,.s t,.sl 4 (gK l)]
def gK:List Ov→List PV
 | []=>[]
 |v::r=>eO v::gK r
end
structure Ou where
 kind:Int
 num:Int
 text:ByteArray
 vk:Int
 vn:Int
 vt:ByteArray
 va:List Ov
 args:List Ov
def AW (o:Ou):List PV:=[.i .i64 o.kind,.i .i64 o.num,.s o.text,.i .i64 o.vk,.i .i64 o.vn,.s o.vt,.sl 4 (gK o.va),.sl 4 (gK o.args)]
def cV:Vl→List PV
 |.mk k n t l c=>[.i .i64 k,.i .i64 n,.s t,.sl 5 (bu l),eP cS c]
def QD:Option (Nat×Nat)→PV
 |none=>.sj
 |some q=>.jR fS q.1 q.2
structure Rn where
 maker:Nat
 names:List ByteArray
 body:Option Nat
 self:Int
 state:List Vl
 mode:Int
 stack:Option (Nat×Nat)
 cur:Fr
 val:Vl
 last:Ou
 pause:Fr
 out:Option Nat
def cP (r:Rn):List PV:=[.agg (.bH mS r.maker::.sl 1 (r.names.map .s)::eP nS r.body::.i .i64 r.self::.sl 5 (bu r.state)::.i .i64 r.mode::QD r.stack::(dX r.cur++(cV r.val++(AW r.last++(dX r.pause++[eP oS r.out])))))]
def iE (z:bf Rn):br:=.store 142 true rS z.1 31 (cC cP z.2)
theorem aJ {k:Nat} {xs ys:List PV}:∀{M:List (Nat×List PV)},rD k M=some xs→rD k (sset k ys M)=some ys
 | [],h=>by cases h
 |(a,zs)::r,h=>by
  rw[rD]at h;rw[sset]
  cases hb:Nat.beq a k with
  |true=>rw[rD,hb]
  |false=>rw[hb]at h;rw[rD,hb];exact aJ h
theorem bV (k:Nat) (xs ys:List PV):∀(M:List (Nat×List PV)),sset k ys (sset k xs M)=sset k ys M
 | []=>rfl
 |(a,zs)::r=>by
  rw[sset,sset]
  cases hb:Nat.beq a k with
  |true=>rw[sset,hb]
  |false=>rw[sset,hb,bV k xs ys r]
theorem jq (z:bf Rn) (k:Nat) (v:Vl) (r:Rn) (hr:aK k z.2=some r):
 av Tryz.prog 230 [.p (.bH rS k),.p (eV v)] [(1000000000,iE z)] (.cA []) [(1000000000,iE (z.1,aW k { r with cur:={ r.cur with n:=none },val:=v } z.2))]:=by
 obtain⟨vk,vn,vt,va,vc⟩:=v;obtain⟨r1,r2,r3,r4,r5,r6,r7,⟨c1,c2,c3,c4,c5⟩,⟨wk,wn,wt,wa,wc⟩,⟨o1,o2,o3,o4,o5,o6,o7,o8⟩,⟨p1,p2,p3,p4,p5⟩,r12⟩:=r;rw[eV];unfold iE;refine av.intro (ah Tryz.prog) aC Tryz.func230 rfl (by rfl) (by kernel_rfl) (by show 2≤_;decide) rfl ?_;(conv=>whnf);refine ag ⟨rfl,by decide,.inl rfl⟩ ?_;refine⟨_,aq hr,?_⟩;refine au (i:=0) rfl ?_;(conv=>whnf);refine ag ⟨rfl,by decide,.inl rfl⟩ ?_;refine⟨_,aJ (aq hr),?_⟩;refine au (i:=0) rfl ?_;(conv=>whnf);refine ag (.inl (by kernel_rfl)) ?_;(conv=>whnf);refine⟨.inl rfl,⟨⟨rfl,rfl,rfl,rfl,rfl,?_⟩,trivial⟩⟩;rw[bV];exact bM cP k ⟨r1,r2,r3,r4,r5,r6,r7,⟨none,c2,c3,c4,c5⟩,.mk vk vn vt va vc,⟨o1,o2,o3,o4,o5,o6,o7,o8⟩,⟨p1,p2,p3,p4,p5⟩,r12⟩ z.2
noncomputable def Qw:Nat→Option TI:=gN (jQ Tryz.prog) 136 [1,1,0,1,1]
theorem Ki:bz Tryz.prog Qw:=(ah Tryz.prog).gN _ _
theorem jr (z:bf Rn) (k n:Nat) (f:Fr) (s:Option Nat) (r:Rn) (hr:aK k z.2=some r):
 av Tryz.prog 231 [.p (.bH rS k),.p (.bH nS n),.p (.agg (dX f)),.p (eP sS s)] [(1000000000,iE z)] (.cA []) [(1000000000,iE (z.1,aW k { r with cur:=⟨some n,s,.nil,f.depth,f.inFun⟩ } z.2))]:=by
 obtain⟨f1,f2,f3,f4,f5⟩:=f;obtain⟨r1,r2,r3,r4,r5,r6,r7,⟨c1,c2,c3,c4,c5⟩,⟨wk,wn,wt,wa,wc⟩,⟨o1,o2,o3,o4,o5,o6,o7,o8⟩,⟨p1,p2,p3,p4,p5⟩,r12⟩:=r;unfold iE dX;dsimp only
 cases s with
 |none=>
  refine av.intro Ki aC Tryz.func231 rfl (by rfl) (by kernel_rfl) (by show 4≤_;decide) rfl ?_;(conv=>whnf);refine ag ⟨rfl,by decide,.inl rfl⟩ ?_;refine⟨_,aq hr,?_⟩;refine au (i:=0) rfl ?_;(conv=>whnf);refine⟨.inl rfl,⟨⟨rfl,rfl,rfl,rfl,rfl,?_⟩,trivial⟩⟩;exact bM cP k ⟨r1,r2,r3,r4,r5,r6,r7,⟨some n,none,.nil,f4,f5⟩,.mk wk wn wt wa wc,⟨o1,o2,o3,o4,o5,o6,o7,o8⟩,⟨p1,p2,p3,p4,p5⟩,r12⟩ z.2
 |some s=>
  refine av.intro Ki aC Tryz.func231 rfl (by rfl) (by kernel_rfl) (by show 4≤_;decide) rfl ?_;(conv=>whnf);refine ag ⟨rfl,by decide,.inl rfl⟩ ?_;refine⟨_,aq hr,?_⟩;refine au (i:=0) rfl ?_;(conv=>whnf);refine⟨.inl rfl,⟨⟨rfl,rfl,rfl,rfl,rfl,?_⟩,trivial⟩⟩;exact bM cP k ⟨r1,r2,r3,r4,r5,r6,r7,⟨some n,(some s),.nil,f4,f5⟩,.mk wk wn wt wa wc,⟨o1,o2,o3,o4,o5,o6,o7,o8⟩,⟨p1,p2,p3,p4,p5⟩,r12⟩ z.2
end MN
end
section
open Go Go.AM Go.Proofs TK
set_option maxRecDepth 100000
namespace MN
def Qq (o:Ou):List PV:=[.agg (AW o)]
def CH (z:bf Ou):br:=.store 41 true oS z.1 8 (cC Qq z.2)
theorem uh (a:Nat) (xs:List PV) (M:List (Nat×List PV)):rD a ((a,xs)::M)=some xs:=by rw[rD,Nat.beq_refl]
noncomputable def QE:Nat→Option TI:=hint (gN (jQ Tryz.prog) 133 [0]) 41 [1000003]
theorem Nq:bz Tryz.prog QE:=((ah Tryz.prog).gN _ _).hint _ _
def tY (r:Rn) (o:Ou) (a:Nat):Rn:={ r with mode:=3,last:=o,out:=some a,stack:=none }
theorem AS (z:bf Rn) (zo:bf Ou) (k:Nat) (o:Ou) (r:Rn) (hr:aK k z.2=some r):
 av Tryz.prog 238 [.p (.bH rS k),.p (.agg (AW o))] [(1000000000,iE z),(1000000001,CH zo)] (.cA []) [(1000000000,iE (z.1,aW k (tY r o zo.1) z.2)),(1000000001,CH (zo.1+1,(zo.1,o)::zo.2))]:=by
 obtain⟨r1,r2,r3,r4,r5,r6,r7,⟨c1,c2,c3,c4,c5⟩,⟨wk,wn,wt,wa,wc⟩,⟨o1,o2,o3,o4,o5,o6,o7,o8⟩,⟨p1,p2,p3,p4,p5⟩,r12⟩:=r;obtain⟨q1,q2,q3,q4,q5,q6,q7,q8⟩:=o;unfold iE CH tY AW;dsimp only;refine av.intro Nq aC Tryz.func238 rfl (by rfl) (by kernel_rfl) (by show 2≤_;decide) rfl ?_;(conv=>whnf);refine ag ⟨rfl,by decide,.inl rfl⟩ ?_;refine⟨_,uh _ _ _,?_⟩;refine au (i:=0) rfl ?_;(conv=>whnf);refine ag ⟨rfl,by decide,.inl rfl⟩ ?_;refine⟨_,aq hr,?_⟩;refine au (i:=0) rfl ?_;(conv=>whnf);refine ag ⟨rfl,by decide,.inl rfl⟩ ?_;refine⟨_,aJ (aq hr),?_⟩;refine au (i:=0) rfl ?_;(conv=>whnf);refine ag ⟨rfl,by decide,.inl rfl⟩ ?_;refine⟨_,aJ (aJ (aq hr)),?_⟩;refine au (i:=0) rfl ?_;(conv=>whnf);refine ag ⟨rfl,by decide,.inl rfl⟩ ?_;refine⟨_,aJ (aJ (aJ (aq hr))),?_⟩;refine au (i:=0) rfl ?_;(conv=>whnf);refine⟨.inl rfl,⟨⟨rfl,rfl,rfl,rfl,rfl,?_⟩,s6,trivial⟩⟩;rw[bV,bV,bV];exact bM cP k ⟨r1,r2,r3,r4,r5,3,none,⟨c1,c2,c3,c4,c5⟩,.mk wk wn wt wa wc,⟨q1,q2,q3,q4,q5,q6,q7,q8⟩,⟨p1,p2,p3,p4,p5⟩,some zo.1⟩ z.2
def Cu (why:ByteArray):Ou:=⟨9,0,why,0,0,⟨#[]⟩,[],[]⟩
theorem cJ (z:bf Rn) (zo:bf Ou) (k:Nat) (why:ByteArray) (r:Rn) (hr:aK k z.2=some r):
 av Tryz.prog 242 [.p (.bH rS k),.p (.s why)] [(1000000000,iE z),(1000000001,CH zo)] (.cA []) [(1000000000,iE (z.1,aW k (tY r (Cu why) zo.1) z.2)),(1000000001,CH (zo.1+1,(zo.1,Cu why)::zo.2))]:=by
 have hs:=AS z zo k (Cu why) r hr;unfold iE CH at *;refine av.intro (ah Tryz.prog) aC Tryz.func242 rfl (by rfl) (by kernel_rfl) (by show 2≤_;decide) rfl ?_;(conv=>whnf);refine bh [1000000000,1000000001] 300 hs ?_;(conv=>whnf);exact⟨.inl rfl,⟨s6,s6,trivial⟩⟩
end MN
end
section
open Go Go.AM Go.Proofs TK
set_option maxRecDepth 100000
namespace MN
noncomputable def Qx:Nat→Option TI:=hint (jQ Tryz.prog) 41 [1000003]
theorem M5:bz Tryz.prog Qx:=(ah Tryz.prog).hint _ _
def yz (r:Rn) (a:Nat):Rn:={ r with out:=some a,cur:={ r.cur with n:=none },val:=vI 1 0 }
theorem aQ {α:Type} (k:Nat) (x:α) (M:List (Nat×α)):aK k ((k,x)::M)=some x:=by rw[aK,Nat.beq_refl]
theorem dL {α:Type} (k:Nat) (x y:α) (M:List (Nat×α)):aW k y ((k,x)::M)=(k,y)::M:=by rw[aW,Nat.beq_refl]
theorem cx {α:Type} {k:Nat} {x y:α}:∀{M:List (Nat×α)},aK k M=some x→aK k (aW k y M)=some y
 | [],h=>by cases h
 |(a,z)::r,h=>by
  rw[aK]at h;rw[aW]
  cases hb:Nat.beq a k with
  |true=>rw[aK,hb]
  |false=>rw[hb]at h;rw[aK,hb];exact cx h
theorem cT {α:Type} (k:Nat) (x y:α):∀(M:List (Nat×α)),aW k y (aW k x M)=aW k y M
 | []=>rfl
 |(a,z)::r=>by
  rw[aW,aW]
  cases hb:Nat.beq a k with
  |true=>rw[aW,hb]
  |false=>rw[aW,hb,cT k x y r]
theorem kG (z:bf Rn) (zo:bf Ou) (k:Nat) (o:Ou) (r:Rn) (hr:aK k z.2=some r):
 av Tryz.prog 259 [.p (.bH rS k),.p (.agg (AW o))] [(1000000000,iE z),(1000000001,CH zo)] (.cA []) [(1000000000,iE (z.1,aW k (yz r zo.1) z.2)),(1000000001,CH (zo.1+1,(zo.1,o)::zo.2))]:=by
 have hg:=jq (z.1,aW k { r with out:=some zo.1 } z.2) k (vI 1 0) { r with out:=some zo.1 } (cx hr);rw[cT]at hg;have hen:∀M,sset k (cP { r with out:=some zo.1 }) (cC cP M)=cC cP (aW k { r with out:=some zo.1 } M):=fun M=>bM cP k _ M;obtain⟨r1,r2,r3,r4,r5,r6,r7,⟨c1,c2,c3,c4,c5⟩,⟨wk,wn,wt,wa,wc⟩,⟨o1,o2,o3,o4,o5,o6,o7,o8⟩,⟨p1,p2,p3,p4,p5⟩,r12⟩:=r;obtain⟨q1,q2,q3,q4,q5,q6,q7,q8⟩:=o;unfold iE CH AW yz at *;dsimp only at *;refine av.intro M5 aC Tryz.func259 rfl (by rfl) (by kernel_rfl) (by show 2≤_;decide) rfl ?_;(conv=>whnf);refine ag ⟨rfl,by decide,.inl rfl⟩ ?_;refine⟨_,aq hr,?_⟩;refine au (i:=0) rfl ?_;(conv=>whnf);refine jA ve ?_;(conv=>whnf);rw[←hen]at hg;refine bh [1000000000] 300 hg ?_;(conv=>whnf);exact⟨.inl rfl,⟨s6,s6,trivial⟩⟩
end MN
end
section
open Go Go.AM Go.Proofs TK
set_option maxRecDepth 100000
namespace MN
noncomputable def QA:Nat→Option TI:=gN (gN (jQ Tryz.prog) 133 [0]) 136 [1,1,0,1,1]
theorem B0:bz Tryz.prog QA:=((ah Tryz.prog).gN _ _).gN _ _
def B8 (r:Rn) (l:List Vl) (s:Option Nat):Rn:={ r with state:=l,stack:=none,mode:=0,cur:=⟨r.body,s,.nil,0,false⟩ }
theorem xx (z:bf Rn) (zs:bf Sc) (k:Nat) (l:List Vl) (r:Rn) (R:bf Sc×Option Nat) (hr:aK k z.2=some r) (hn:r.names.length≤2000000) (hF:lD r.names l (zs,none)=some R):
 av Tryz.prog 40 [.p (.bH rS k),.p (.sl 5 (bu l))] [(1000000000,iE z),(1000000001,zX sS zs)] (.cA []) [(1000000000,iE (z.1,aW k (B8 r l R.2) z.2)),(1000000001,zX sS R.1)]:=by
 have hw:=uT sS r.names l (zs,none) R (by omega) hF;obtain⟨r1,r2,r3,r4,r5,r6,r7,⟨c1,c2,c3,c4,c5⟩,⟨wk,wn,wt,wa,wc⟩,⟨o1,o2,o3,o4,o5,o6,o7,o8⟩,⟨p1,p2,p3,p4,p5⟩,r12⟩:=r;obtain⟨R1,R2⟩:=R;unfold iE zX B8 at *;dsimp only at *
 cases r3 with
 |none=>
  cases R2 with
  |none=>
   refine av.intro B0 aC Tryz.func40 rfl (by rfl) (by kernel_rfl) (by show 2≤_;decide) rfl ?_;(conv=>whnf);refine ag ⟨rfl,by decide,.inl rfl⟩ ?_;refine⟨_,aq hr,?_⟩;refine au (i:=0) rfl ?_;(conv=>whnf);refine ag ⟨rfl,by decide,.inl rfl⟩ ?_;refine⟨_,aJ (aq hr),?_⟩;refine au (i:=0) rfl ?_;(conv=>whnf);refine ag ⟨rfl,by decide,.inl rfl⟩ ?_;refine⟨_,aJ (aJ (aq hr)),?_⟩;refine au (i:=0) rfl ?_;(conv=>whnf);refine ag ⟨rfl,by decide,.inl rfl⟩ ?_;refine⟨_,aJ (aJ (aJ (aq hr))),?_⟩;refine au (i:=0) rfl ?_;(conv=>whnf);refine ag ⟨rfl,by decide,.inl rfl⟩ ?_;refine⟨_,aJ (aJ (aJ (aq hr))),?_⟩;refine au (i:=0) rfl ?_;(conv=>whnf);refine bh [1000000001] 300 hw ?_;(conv=>whnf);refine ag ⟨rfl,by decide,.inl rfl⟩ ?_;refine⟨_,aJ (aJ (aJ (aq hr))),?_⟩;refine au (i:=0) rfl ?_;(conv=>whnf);refine ag (.inl (by kernel_rfl)) ?_;(conv=>whnf);refine⟨.inl rfl,⟨⟨rfl,rfl,rfl,rfl,rfl,?_⟩,s6,trivial⟩⟩;rw[bV,bV,bV];exact bM cP k ⟨r1,r2,none,r4,l,0,none,⟨none,none,.nil,0,false⟩,.mk wk wn wt wa wc,⟨o1,o2,o3,o4,o5,o6,o7,o8⟩,⟨p1,p2,p3,p4,p5⟩,r12⟩ z.2
  |some s=>
   refine av.intro B0 aC Tryz.func40 rfl (by rfl) (by kernel_rfl) (by show 2≤_;decide) rfl ?_;(conv=>whnf);refine ag ⟨rfl,by decide,.inl rfl⟩ ?_;refine⟨_,aq hr,?_⟩;refine au (i:=0) rfl ?_;(conv=>whnf);refine ag ⟨rfl,by decide,.inl rfl⟩ ?_;refine⟨_,aJ (aq hr),?_⟩;refine au (i:=0) rfl ?_;(conv=>whnf);refine ag ⟨rfl,by decide,.inl rfl⟩ ?_;refine⟨_,aJ (aJ (aq hr)),?_⟩;refine au (i:=0) rfl ?_;(conv=>whnf);refine ag ⟨rfl,by decide,.inl rfl⟩ ?_;refine⟨_,aJ (aJ (aJ (aq hr))),?_⟩;refine au (i:=0) rfl ?_;(conv=>whnf);refine ag ⟨rfl,by decide,.inl rfl⟩ ?_;refine⟨_,aJ (aJ (aJ (aq hr))),?_⟩;refine au (i:=0) rfl ?_;(conv=>whnf);refine bh [1000000001] 300 hw ?_;(conv=>whnf);refine ag ⟨rfl,by decide,.inl rfl⟩ ?_;refine⟨_,aJ (aJ (aJ (aq hr))),?_⟩;refine au (i:=0) rfl ?_;(conv=>whnf);refine ag (.inl (by kernel_rfl)) ?_;(conv=>whnf);refine⟨.inl rfl,⟨⟨rfl,rfl,rfl,rfl,rfl,?_⟩,s6,trivial⟩⟩;rw[bV,bV,bV];exact bM cP k ⟨r1,r2,none,r4,l,0,none,⟨none,(some s),.nil,0,false⟩,.mk wk wn wt wa wc,⟨o1,o2,o3,o4,o5,o6,o7,o8⟩,⟨p1,p2,p3,p4,p5⟩,r12⟩ z.2
 |some b=>
  cases R2 with
  |none=>
   refine av.intro B0 aC Tryz.func40 rfl (by rfl) (by kernel_rfl) (by show 2≤_;decide) rfl ?_;(conv=>whnf);refine ag ⟨rfl,by decide,.inl rfl⟩ ?_;refine⟨_,aq hr,?_⟩;refine au (i:=0) rfl ?_;(conv=>whnf);refine ag ⟨rfl,by decide,.inl rfl⟩ ?_;refine⟨_,aJ (aq hr),?_⟩;refine au (i:=0) rfl ?_;(conv=>whnf);refine ag ⟨rfl,by decide,.inl rfl⟩ ?_;refine⟨_,aJ (aJ (aq hr)),?_⟩;refine au (i:=0) rfl ?_;(conv=>whnf);refine ag ⟨rfl,by decide,.inl rfl⟩ ?_;refine⟨_,aJ (aJ (aJ (aq hr))),?_⟩;refine au (i:=0) rfl ?_;(conv=>whnf);refine ag ⟨rfl,by decide,.inl rfl⟩ ?_;refine⟨_,aJ (aJ (aJ (aq hr))),?_⟩;refine au (i:=0) rfl ?_;(conv=>whnf);refine bh [1000000001] 300 hw ?_;(conv=>whnf);refine ag ⟨rfl,by decide,.inl rfl⟩ ?_;refine⟨_,aJ (aJ (aJ (aq hr))),?_⟩;refine au (i:=0) rfl ?_;(conv=>whnf);refine ag (.inl (by kernel_rfl)) ?_;(conv=>whnf);refine⟨.inl rfl,⟨⟨rfl,rfl,rfl,rfl,rfl,?_⟩,s6,trivial⟩⟩;rw[bV,bV,bV];exact bM cP k ⟨r1,r2,(some b),r4,l,0,none,⟨(some b),none,.nil,0,false⟩,.mk wk wn wt wa wc,⟨o1,o2,o3,o4,o5,o6,o7,o8⟩,⟨p1,p2,p3,p4,p5⟩,r12⟩ z.2
  |some s=>
   refine av.intro B0 aC Tryz.func40 rfl (by rfl) (by kernel_rfl) (by show 2≤_;decide) rfl ?_;(conv=>whnf);refine ag ⟨rfl,by decide,.inl rfl⟩ ?_;refine⟨_,aq hr,?_⟩;refine au (i:=0) rfl ?_;(conv=>whnf);refine ag ⟨rfl,by decide,.inl rfl⟩ ?_;refine⟨_,aJ (aq hr),?_⟩;refine au (i:=0) rfl ?_;(conv=>whnf);refine ag ⟨rfl,by decide,.inl rfl⟩ ?_;refine⟨_,aJ (aJ (aq hr)),?_⟩;refine au (i:=0) rfl ?_;(conv=>whnf);refine ag ⟨rfl,by decide,.inl rfl⟩ ?_;refine⟨_,aJ (aJ (aJ (aq hr))),?_⟩;refine au (i:=0) rfl ?_;(conv=>whnf);refine ag ⟨rfl,by decide,.inl rfl⟩ ?_;refine⟨_,aJ (aJ (aJ (aq hr))),?_⟩;refine au (i:=0) rfl ?_;(conv=>whnf);refine bh [1000000001] 300 hw ?_;(conv=>whnf);refine ag ⟨rfl,by decide,.inl rfl⟩ ?_;refine⟨_,aJ (aJ (aJ (aq hr))),?_⟩;refine au (i:=0) rfl ?_;(conv=>whnf);refine ag (.inl (by kernel_rfl)) ?_;(conv=>whnf);refine⟨.inl rfl,⟨⟨rfl,rfl,rfl,rfl,rfl,?_⟩,s6,trivial⟩⟩;rw[bV,bV,bV];exact bM cP k ⟨r1,r2,(some b),r4,l,0,none,⟨(some b),(some s),.nil,0,false⟩,.mk wk wn wt wa wc,⟨o1,o2,o3,o4,o5,o6,o7,o8⟩,⟨p1,p2,p3,p4,p5⟩,r12⟩ z.2
end MN
end
section
open Go Go.AM Go.Proofs TK
set_option maxRecDepth 100000
namespace MN
abbrev aS:Nat:=19
abbrev bS:Nat:=20
def O8 (sp:Nat):Option (Nat×Nat)→PV
 |none=>.sj
 |some q=>.jR sp q.1 q.2
def gA:Option (Nat×Nat)→Nat
 |none=>0
 |some q=>q.2
structure Nd where
 kind:Int
 num:Int
 text:ByteArray
 names:List ByteArray
 args:Option (Nat×Nat)
 dU:Option (Nat×Nat)
 needs:Int
 fn:Int
 free:List ByteArray
def dc (n:Nd):List PV:=[.agg [.i .i64 n.kind,.i .i64 n.num,.s n.text,.sl 1 (n.names.map .s),O8 aS n.args,O8 bS n.dU,.i .i64 n.needs,.i .i64 n.fn,.sl 1 (n.free.map .s)]]
def iH (z:bf Nd):br:=.store 160 true nS z.1 9 (cC dc z.2)
def Fc:ByteArray:=⟨#[97,110,100]⟩
def P9:ByteArray:=⟨#[111,114]⟩
def gH (n:Nd):Bool:=((n.kind==8)&&((n.text.toList==Fc.toList)||(n.text.toList==P9.toList)))&&((gA n.args:Int)==2)
theorem qD (z:bf Nd) (k:Nat) (n:Nd) (hn:aK k z.2=some n):
 av Tryz.prog 252 [.p (.bH nS k)] [(1000000000,iH z)] (.p (.b (gH n))) [(1000000000,iH z)]:=by
 obtain⟨n1,n2,n3,n4,n5,n6,n7,n8,n9⟩:=n;unfold iH gH;dsimp only;refine av.intro (ah Tryz.prog) aC Tryz.func252 rfl (by rfl) (by kernel_rfl) (by show 1≤_;decide) rfl ?_;(conv=>whnf);refine ag ⟨rfl,by decide,.inl rfl⟩ ?_;refine⟨_,aq hn,?_⟩;refine au (i:=0) rfl ?_;(conv=>whnf);refine aj ?_ ?_<;>intro h1<;>conv=>whnf
 ·rw[show(n1==8)=true from h1,Bool.true_and]
  refine ag ⟨rfl,by decide,.inl rfl⟩ ?_;refine⟨_,aq hn,?_⟩;refine au (i:=0) rfl ?_;(conv=>whnf);refine aj ?_ ?_<;>intro h2<;>conv=>whnf
  ·rw[show(n3.toList==Fc.toList)=true from h2,Bool.true_or,Bool.true_and]
   cases n5 with
   |none=>
    refine ag ⟨rfl,by decide,.inl rfl⟩ ?_;refine⟨_,aq hn,?_⟩;refine au (i:=0) rfl ?_;(conv=>whnf);exact⟨.inl rfl,⟨s6,trivial⟩⟩
   |some q=>
    refine ag ⟨rfl,by decide,.inl rfl⟩ ?_;refine⟨_,aq hn,?_⟩;refine au (i:=0) rfl ?_;(conv=>whnf);exact⟨.inl rfl,⟨s6,trivial⟩⟩
  ·rw[show(n3.toList==Fc.toList)=false from h2,Bool.false_or]
   refine ag ⟨rfl,by decide,.inl rfl⟩ ?_;refine⟨_,aq hn,?_⟩;refine au (i:=0) rfl ?_;(conv=>whnf);refine aj ?_ ?_<;>intro h3<;>conv=>whnf
   ·rw[show(n3.toList==P9.toList)=true from h3,Bool.true_and]
    cases n5 with
    |none=>
     refine ag ⟨rfl,by decide,.inl rfl⟩ ?_;refine⟨_,aq hn,?_⟩;refine au (i:=0) rfl ?_;(conv=>whnf);exact⟨.inl rfl,⟨s6,trivial⟩⟩
    |some q=>
     refine ag ⟨rfl,by decide,.inl rfl⟩ ?_;refine⟨_,aq hn,?_⟩;refine au (i:=0) rfl ?_;(conv=>whnf);exact⟨.inl rfl,⟨s6,trivial⟩⟩
   ·rw[show(n3.toList==P9.toList)=false from h3,Bool.false_and]
    exact⟨.inl rfl,⟨s6,trivial⟩⟩
 ·rw[show(n1==8)=false from h1,Bool.false_and,Bool.false_and]
  exact⟨.inl rfl,⟨s6,trivial⟩⟩
end MN
end
section
open Go Go.AM Go.Proofs TK
set_option maxRecDepth 100000
namespace MN
def gJ (n:Nd):Int:=match decide ((gA n.args:Int)<n.needs) with
 |true=>(gA n.args:Int)
 |false=>match ((n.kind==7)||(n.kind==6))||gH n with
  |true=>1
  |false=>n.needs
theorem E6 (z:bf Nd) (k:Nat) (n:Nd) (hn:aK k z.2=some n):
 av Tryz.prog 224 [.p (.bH nS k)] [(1000000000,iH z)] (.p (.i .i64 (gJ n))) [(1000000000,iH z)]:=by
 have hz:=qD z k n hn;generalize hL:gH n=L at hz;obtain⟨n1,n2,n3,n4,n5,n6,n7,n8,n9⟩:=n;unfold iH at *;unfold gJ;rw[hL];clear hL;dsimp only
 cases n5 with
 |none=>
  refine av.intro (ah Tryz.prog) aC Tryz.func224 rfl (by rfl) (by kernel_rfl) (by show 1≤_;decide) rfl ?_;(conv=>whnf);refine ag ⟨rfl,by decide,.inl rfl⟩ ?_;refine⟨_,aq hn,?_⟩;refine au (i:=0) rfl ?_;(conv=>whnf);refine ag ⟨rfl,by decide,.inl rfl⟩ ?_;refine⟨_,aq hn,?_⟩;refine au (i:=0) rfl ?_;(conv=>whnf);refine ag (.inl (by kernel_rfl)) ?_;(conv=>whnf);refine aj ?_ ?_<;>intro h1<;>conv=>whnf
  ·rw[show decide ((gA none:Int)<n7)=true from h1]
   refine ag ⟨rfl,by decide,.inl rfl⟩ ?_;refine⟨_,aq hn,?_⟩;refine au (i:=0) rfl ?_;(conv=>whnf);exact⟨.inl rfl,⟨s6,trivial⟩⟩
  rw[show decide ((gA none:Int)<n7)=false from h1];refine ag ⟨rfl,by decide,.inl rfl⟩ ?_;refine⟨_,aq hn,?_⟩;refine au (i:=0) rfl ?_;(conv=>whnf);refine aj ?_ ?_<;>intro h2<;>conv=>whnf
  ·rw[show(n1==7)=true from h2,Bool.true_or,Bool.true_or]
   exact⟨.inl rfl,⟨s6,trivial⟩⟩
  rw[show(n1==7)=false from h2,Bool.false_or];refine ag ⟨rfl,by decide,.inl rfl⟩ ?_;refine⟨_,aq hn,?_⟩;refine au (i:=0) rfl ?_;(conv=>whnf);refine aj ?_ ?_<;>intro h3<;>conv=>whnf
  ·rw[show(n1==6)=true from h3,Bool.true_or]
   exact⟨.inl rfl,⟨s6,trivial⟩⟩
  rw[show(n1==6)=false from h3,Bool.false_or];refine bh [1000000000] 300 hz ?_;(conv=>whnf)
  cases L with
  |true=>
   (conv=>whnf);exact⟨.inl rfl,⟨s6,trivial⟩⟩
  |false=>
   (conv=>whnf);refine ag ⟨rfl,by decide,.inl rfl⟩ ?_;refine⟨_,aq hn,?_⟩;refine au (i:=0) rfl ?_;(conv=>whnf);exact⟨.inl rfl,⟨s6,trivial⟩⟩
 |some q=>
  refine av.intro (ah Tryz.prog) aC Tryz.func224 rfl (by rfl) (by kernel_rfl) (by show 1≤_;decide) rfl ?_;(conv=>whnf);refine ag ⟨rfl,by decide,.inl rfl⟩ ?_;refine⟨_,aq hn,?_⟩;refine au (i:=0) rfl ?_;(conv=>whnf);refine ag ⟨rfl,by decide,.inl rfl⟩ ?_;refine⟨_,aq hn,?_⟩;refine au (i:=0) rfl ?_;(conv=>whnf);refine ag (.inl (by kernel_rfl)) ?_;(conv=>whnf);refine aj ?_ ?_<;>intro h1<;>conv=>whnf
  ·rw[show decide ((gA (some q):Int)<n7)=true from h1]
   refine ag ⟨rfl,by decide,.inl rfl⟩ ?_;refine⟨_,aq hn,?_⟩;refine au (i:=0) rfl ?_;(conv=>whnf);exact⟨.inl rfl,⟨s6,trivial⟩⟩
  rw[show decide ((gA (some q):Int)<n7)=false from h1];refine ag ⟨rfl,by decide,.inl rfl⟩ ?_;refine⟨_,aq hn,?_⟩;refine au (i:=0) rfl ?_;(conv=>whnf);refine aj ?_ ?_<;>intro h2<;>conv=>whnf
  ·rw[show(n1==7)=true from h2,Bool.true_or,Bool.true_or]
   exact⟨.inl rfl,⟨s6,trivial⟩⟩
  rw[show(n1==7)=false from h2,Bool.false_or];refine ag ⟨rfl,by decide,.inl rfl⟩ ?_;refine⟨_,aq hn,?_⟩;refine au (i:=0) rfl ?_;(conv=>whnf);refine aj ?_ ?_<;>intro h3<;>conv=>whnf
  ·rw[show(n1==6)=true from h3,Bool.true_or]
   exact⟨.inl rfl,⟨s6,trivial⟩⟩
  rw[show(n1==6)=false from h3,Bool.false_or];refine bh [1000000000] 300 hz ?_;(conv=>whnf)
  cases L with
  |true=>
   (conv=>whnf);exact⟨.inl rfl,⟨s6,trivial⟩⟩
  |false=>
   (conv=>whnf);refine ag ⟨rfl,by decide,.inl rfl⟩ ?_;refine⟨_,aq hn,?_⟩;refine au (i:=0) rfl ?_;(conv=>whnf);exact⟨.inl rfl,⟨s6,trivial⟩⟩
end MN
end
section
open Go Go.AM Go.Proofs TK
set_option maxRecDepth 100000
namespace MN
def ry (l:List Nat):List PV:=l.map (.bH nS)
def xS (z:bf (List Nat)):br:=.store 110 false aS z.1 1 (cC ry z.2)
def ja (za:bf (List Nat)) (n:Nd) (j:Nat):Option Nat:=match n.args with
 |none=>none
 |some q=>match Nat.blt j q.2 with
  |false=>none
  |true=>match aK q.1 za.2 with
   |none=>none
   |some l=>l[j]?
def jU (r:Rn) (j:Nat) (f:Fr) (s:Option Nat):Rn:={ r with cur:=⟨some j,s,.nil,f.depth,f.inFun⟩ }
end MN
end
