/- Contracts, and the law, for every input. No conditions. -/
import Derived.Test.YtdmopjgjhfhfdaaGreatDoorMNA
import Derived.Test.YtdmopjgjhfhfdaaGreatDoorMP1
import Derived.Test.YtdmopjgjhfhfdaaGreatDoorTR1
open Go Go.AM Go.Proofs TK
set_option maxRecDepth 100000
namespace MN
structure Ar where
 pat:TR.Pt
 body:Nat
def eAr (a:Ar):PV:=.agg ((TR.eP a.pat).cells++[.adr nS a.body])
def eArs (l:List Ar):List PV:=l.map eAr
def hBr (z:Sto (List Ar)):AObj:=.store 169 false bS z.1 5 (enM eArs z.2)
def hVb (z:Sto (List Vl)):AObj:=.store 139 false vS z.1 5 (enM eVs z.2)
def eFrs (l:List Fr):List PV:=l.map fun f=>.agg (cFr f)
def hFb (z:Sto (List Fr)):AObj:=.store 136 false fS z.1 5 (enM eFrs z.2)
structure Fn where
 names:List ByteArray
 body:Nat
structure Cn where
 data:ByteArray
 args:Int
structure Im where
 trait:ByteArray
 typ:ByteArray
 funcs:Nat
structure Mk where
 funs:Option (Nat×Nat)
 makes:Nat
 funcs:Nat
 traits:Nat
 impls:Option (Nat×Nat)
 actors:Nat
abbrev cM:Nat:=21
abbrev fM:Nat:=22
abbrev tM:Nat:=23
abbrev aM:Nat:=24
abbrev iS:Nat:=25
def eMk (m:Mk):List PV:=[.agg [eBk aS m.funs,.amp cM m.makes,.amp fM m.funcs,.amp tM m.traits,eBk iS m.impls,.amp aM m.actors]]
def hMk (z:Sto Mk):AObj:=.store 84 true mS z.1 6 (enM eMk z.2)
def eFn (f:Fn):PV:=.agg [.sl 1 (f.names.map .s),.adr nS f.body]
def eCn (c:Cn):PV:=.agg [.s c.data,.i .i64 c.args]
def eIm (x:Im):PV:=.agg [.s x.trait,.s x.typ,.amp fM x.funcs]
def eIms (l:List Im):List PV:=l.map eIm
def hIm (z:Sto (List Im)):AObj:=.store 108 false iS z.1 3 (enM eIms z.2)
abbrev TM (α:Type):=List (ByteArray×α)
def eTM {α:Type} (enc:α→PV) (es:TM α):List (PV×PV):=es.map fun e=>(.s e.1,enc e.2)
def eTM2 {α:Type} (enc:α→PV) (es:TM α):List PV:=(eTM enc es).map mkp
def hMc (z:Sto (TM Cn)):AObj:=.store 77 true cM z.1 0 (enM (eTM2 eCn) z.2)
def hMf (z:Sto (TM Fn)):AObj:=.store 78 true fM z.1 0 (enM (eTM2 eFn) z.2)
def hMt (z:Sto (TM ByteArray)):AObj:=.store 79 true tM z.1 0 (enM (eTM2 .s) z.2)
def hMa (z:Sto (TM Fn)):AObj:=.store 80 true aM z.1 0 (enM (eTM2 eFn) z.2)
def tfind {α:Type} (k:ByteArray):TM α→Option α
 | []=>none
 |(a,v)::r=>match k==a with|true=>some v|false=>tfind k r
theorem tfind_look {α:Type} (enc:α→PV) (k:ByteArray) (d:PV):∀es:TM α,mlook (.s k) d (eTM enc es)=(((tfind k es).map enc).getD d,(tfind k es).isSome):=by
 intro es;unfold mlook
 have:mfind (.s k) (eTM enc es)=(tfind k es).map enc:=by
  induction es with
  |nil=>rfl
  |cons e r ih=>
   obtain⟨a,v⟩:=e;show(match pvEq (.s k) (.s a) with|true=>some (enc v)|false=>mfind (.s k) (eTM enc r))=_;rw[tfind,ih];have:pvEq (.s k) (.s a)=(k==a):=rfl;rw[this];cases k==a<;>rfl
 rw[this]
 cases tfind k es<;>rfl
structure Ks where
 n:Sto Nd
 a:Sto (List Nat)
 b:Sto (List Ar)
 mm:Sto Mk
 mc:Sto (TM Cn)
 mf:Sto (TM Fn)
 mt:Sto (TM ByteArray)
 im:Sto (List Im)
 ma:Sto (TM Fn)
structure Ss where
 o:Sto Ou
 s:Sto Sc
 v:Sto (List Vl)
 f:Sto (List Fr)
 c:Sto Cl
 g:Sto (List Nat)
def hA (K:Ks) (S:Ss) (zr:Sto Rn):Heap:=
 [(1000000000,hRn zr),(1000000001,hOu S.o),(1000000002,hNd K.n),(1000000003,hAr K.a),(1000000004,hBr K.b),(1000000005,hSc sS S.s),(1000000006,hVb S.v),(1000000007,hFb S.f),(1000000008,hCl S.c),
  (1000000009,hMk K.mm),(1000000010,hMc K.mc),(1000000011,hMf K.mf),(1000000012,hMt K.mt),(1000000013,hIm K.im),(1000000014,hMa K.ma),(1000000015,hGm S.g)]
def hObj (K:Ks) (S:Ss) (zr:Sto Rn):List AObj:=[hRn zr,hOu S.o,hNd K.n,hAr K.a,hBr K.b,hSc sS S.s,hVb S.v,hFb S.f,hCl S.c,hMk K.mm,hMc K.mc,hMf K.mf,hMt K.mt,hIm K.im,hMa K.ma,hGm S.g]
abbrev iA:List Nat:=[1000000000,1000000001,1000000002,1000000003,1000000004,1000000005,1000000006,1000000007,1000000008,1000000009,1000000010,1000000011,1000000012,1000000013,1000000014,1000000015]
abbrev iB:List Nat:=[1000000000,1000000001,1000000002,1000000003,1000000004,1000000005,1000000006,1000000007,1000000008]
abbrev iC:List Nat:=[1000000000,1000000001,1000000002,1000000003,1000000004,1000000005,1000000006,1000000007,1000000008,1000000009,1000000010,1000000011,1000000012,1000000013,1000000014,1000000015,1000000016]
abbrev iD:List Nat:=[1000000001,1000000002,1000000003,1000000004,1000000005,1000000006,1000000007,1000000008,1000000009,1000000010,1000000011,1000000012,1000000013,1000000014,1000000015,1000000016]
theorem argsLe {P:Program} {f:Nat} {args args2:List AV} {H H':Heap} {r:AV} (h:AMem P f args2 H r H') (hlen:args.length=args2.length)
 (hargs:∀(j:Nat) (a b:AV),args[j]?=some a→args2[j]?=some b→(a=b)∨∃p q,a=.p p∧b=.p q∧∀M v,PRel M v p→PRel M v q):AMem P f args H r H':=by
 obtain⟨hb,hc⟩:=h;refine⟨hb,fun g w vs hH hbn hvl hrel=>hc g w vs hH hbn (hvl.trans hlen) (fun j v b q1 q2=>?_)⟩;have hj:j<args.length:=by rw[hlen];exact(List.getElem?_eq_some_iff.1 q2).1
 have hr:=hrel j v args[j] q1 (List.getElem?_eq_getElem hj);rcases hargs j args[j] b (List.getElem?_eq_getElem hj) q2 with e|⟨p,q,e1,e2,hpq⟩
 ·rw[←e];exact hr
 ·rw[e1]at hr;subst e2
  exact .p _ _ _ (hpq _ _ hr.pv)
theorem enM_del {α:Type} (enc:α→List PV) (a nx:Nat) (z:List (Nat×α)) (T:Nat) (one:Bool) (sp sz:Nat):AObj.store T one sp nx sz (enM enc (tdel a z))=.store T one sp nx sz (sdel a (enM enc z)):=by rw[sdel_en]
theorem frzA {fn:Nat} {K:Ks} {S:Ss} {zr:Sto Rn} {H':Heap} {r:AV} {k kk n:Nat} {f:Fr} {xs:List Vl} (hgl:globB (hA K S zr) H'=true) (hk:tlk kk S.v.2=some xs) (hn:n≤xs.length)
 (h:AMem Tryz.prog fn [.p (.adr rS k),.p (.agg (cFr { f with vals:=.lst (xs.take n) }))] (hA K { S with v:=(S.v.1,tdel kk S.v.2) } zr) r H'):
 AMem Tryz.prog fn [.p (.adr rS k),.p (.agg (cFr { f with vals:=.blk kk n }))] (hA K S zr) r H':=by
 have hlen:(eVs xs).length=xs.length:=by rw[eVs_map];simp
 refine AMem.freeze (l:=1000000006) (T:=139) (one:=false) (sp:=vS) (nx:=S.v.1) (sz:=5) (k:=kk) (n:=n) (M:=enM eVs S.v.2) (xs:=eVs xs) h hgl rfl ?_ (slk_in hk) (by rw[hlen];exact hn) (by decide) rfl ?_
 ·intro x
  unfold hA hVb;rw[enM_del]
  cases hb:Nat.beq 1000000006 x with
  |true=>
   have hx:=(Nat.eq_of_beq_eq_true hb).symm;subst hx;rfl
  |false=>simp only[hget,hb]
 ·intro j a b h1 h2
  rcases j with _|_|j
  ·cases h1;cases h2;exact .inl ⟨rfl,fun _ _ q=>by cases q⟩
  ·cases h1;cases h2
   refine .inr ⟨_,_,rfl,rfl,.agg _ _ rfl ?_⟩;intro j a b g1 g2;rcases j with _|_|_|j
   ·cases g1;cases g2;exact .refl _
   ·cases g1;cases g2;exact .refl _
   ·cases g1;cases g2
    show Frz _ _ _ _ _ (.ads vS kk n) (.sl 5 (eVs (xs.take n)));rw[show eVs (xs.take n)=(eVs xs).take n by rw[eVs_map,eVs_map,List.map_take]];exact .ads
   ·have e:a=b:=by
     rcases j with _|_|j
     ·cases g1;cases g2;rfl
     ·cases g1;cases g2;rfl
     ·cases g1
    rw[e];exact .refl _
  ·cases h1
theorem frzN {fn:Nat} {H H':Heap} {r:AV} {k:Nat} {f:Fr} (h:AMem Tryz.prog fn [.p (.adr rS k),.p (.agg (cFr { f with vals:=.lst [] }))] H r H'):
 AMem Tryz.prog fn [.p (.adr rS k),.p (.agg (cFr { f with vals:=.nil }))] H r H':=by
 refine argsLe h rfl ?_;intro j a b h1 h2;rcases j with _|_|j
 ·cases h1;cases h2;exact .inl rfl
 ·cases h1;cases h2
  refine .inr ⟨_,_,rfl,rfl,fun M v hr=>?_⟩
  cases hr with
  |agg vs _ hl2 h1 hx=>
   refine .agg vs _ hl2 h1 (fun j v x q1 q2=>?_);rcases j with _|_|_|j
   ·exact hx _ _ _ q1 q2
   ·exact hx _ _ _ q1 q2
   ·cases q2
    have:=hx 2 v .nsl q1 rfl
    cases this;exact .nil 5
   ·exact hx (j+3) v x q1 q2
 ·cases h1
end MN
open Go Go.AM Go.Proofs TK
set_option maxRecDepth 100000
namespace MN
def wName:ByteArray:=⟨#[110,97,109,101]⟩
def wMatch:ByteArray:=⟨#[109,97,116,99,104]⟩
def wDeep:ByteArray:=⟨#[100,101,101,112]⟩
def eqB (a b:ByteArray):Bool:=a.toList==b.toList
def failS (S:Ss) (r:Rn) (why:ByteArray):Ss×Rn:=({ S with o:=(S.o.1+1,(S.o.1,failO why)::S.o.2) },stopR r (failO why) S.o.1)
def tellS (S:Ss) (r:Rn) (o:Ou):Ss×Rn:=({ S with o:=(S.o.1+1,(S.o.1,o)::S.o.2) },tellR r S.o.1)
def giveR (r:Rn) (v:Vl):Rn:={ r with cur:={ r.cur with n:=none },val:=v }
def nodeF (K:Ks) (f:Fr):Option Nd:=match f.n with|none=>none|some k=>tlk k K.n.2
def valsOf (S:Ss):FV→Option (List Vl)
 |.nil=>some []
 |.lst xs=>some xs
 |.blk k n=>match tlk k S.v.2 with
  |none=>none
  |some xs=>match Nat.ble n xs.length&&Nat.ble n 1000000 with|true=>some (xs.take n)|false=>none
def frzS (S:Ss):FV→Ss
 |.blk k _=>{ S with v:=(S.v.1,tdel k S.v.2) }
 |_=>S
def pickJ (n:Int):Nat:=match n==0 with|true=>2|false=>1
def chooseF (K:Ks) (S:Ss) (r:Rn) (f:Fr) (xs:List Vl):Option (Ss×Rn):=match nodeF K f with
 |none=>none
 |some n=>match xs with
  | []=>none
  |v::_=>match v.kind==3 with
   |false=>some (failS S r wType)
   |true=>match argF K.a n (pickJ v.num) with
    |none=>none
    |some j=>some (S,evalR r j f f.sc)
def pnum:TR.Pt→Int
 |.mk _ n _ _=>n
def matchL (g:TR.Pt→Vl→Sto Sc×Option Nat→Option (Bool×(Sto Sc×Option Nat))):List TR.Pt→List Vl→Sto Sc×Option Nat→Option (Bool×(Sto Sc×Option Nat))
 | [],_,z=>some (true,z)
 |_::_,[],_=>none
 |x::r,v::s,z=>match g x v z with
  |none=>none
  |some (false,z2)=>some (false,z2)
  |some (true,z2)=>matchL g r s z2
def matchF:Nat→TR.Pt→Vl→Sto Sc×Option Nat→Option (Bool×(Sto Sc×Option Nat))
 |0,_,_,_=>none
 |n+1,p,v,z=>match p.kind==1 with
  |true=>some (true,z)
  |false=>match p.kind==2 with
   |true=>some (true,((z.1.1+1,(z.1.1,⟨p.text,v,z.2⟩)::z.1.2),some z.1.1))
   |false=>match p.kind==3 with
    |true=>some ((v.kind==2)&&(v.num==pnum p),z)
    |false=>match p.kind==4 with
     |true=>some ((v.kind==3)&&(v.num==pnum p),z)
     |false=>match p.kind==5 with
      |true=>some ((v.kind==4)&&eqB v.text p.text,z)
      |false=>match p.kind==6 with
       |false=>some (false,z)
       |true=>match !(v.kind==5)||!(eqB v.text p.text)||!(Nat.beq v.args.length p.args.length) with
        |true=>some (false,z)
        |false=>match Nat.ble p.args.length 1000000 with
         |false=>none
         |true=>matchL (matchF n) p.args v.args z
def armsF (K:Ks) (n:Nd):Option (List Ar):=match n.arms with
 |none=>some []
 |some q=>match tlk q.1 K.b.2 with
  |none=>none
  |some l=>match Nat.ble q.2 l.length&&Nat.ble q.2 1000000 with|true=>some (l.take q.2)|false=>none
def takeL (f:Fr) (v:Vl):List Ar→Ss→Rn→Option (Bool×Ss×Rn)
 | [],S,r=>some (false,S,r)
 |a::l,S,r=>match matchF 60 a.pat v (S.s,f.sc) with
  |none=>none
  |some (true,z)=>some (true,{ S with s:=z.1 },evalR r a.body f z.2)
  |some (false,z)=>takeL f v l { S with s:=z.1 } r
def takeF (K:Ks) (S:Ss) (r:Rn) (f:Fr) (v:Vl):Option (Bool×Ss×Rn):=match nodeF K f with
 |none=>none
 |some n=>match armsF K n with
  |none=>none
  |some l=>takeL f v l S r
def matchSF (K:Ks) (S:Ss) (r:Rn) (f:Fr) (xs:List Vl):Option (Ss×Rn):=match xs with
 | []=>none
 |v::_=>match takeF K S r f v with
  |none=>none
  |some (true,S2,r2)=>some (S2,r2)
  |some (false,S2,r2)=>some (failS S2 r2 wMatch)
def typF (K:Ks) (m:Mk) (v:Vl):Option (Option ByteArray):=match v.kind==5 with
 |true=>match tlk m.makes K.mc.2 with
  |none=>none
  |some es=>match tfind v.text es with
   |none=>some none
   |some c=>some (some c.data)
 |false=>match eqB (basicF v.kind) ⟨#[]⟩ with
  |true=>some none
  |false=>some (some (basicF v.kind))
def implL (K:Ks) (trait typ name:ByteArray):List Im→Option (Option Fn)
 | []=>some none
 |x::r=>match eqB x.trait trait&&eqB x.typ typ with
  |true=>match tlk x.funcs K.mf.2 with
   |none=>none
   |some es=>some (tfind name es)
  |false=>implL K trait typ name r
def implsF (K:Ks) (m:Mk):Option (List Im):=match m.impls with
 |none=>some []
 |some q=>match tlk q.1 K.im.2 with
  |none=>none
  |some l=>match Nat.ble q.2 l.length&&Nat.ble q.2 1000000 with|true=>some (l.take q.2)|false=>none
def findG (K:Ks) (m:Mk) (name:ByteArray) (xs:List Vl):Option (Option Fn):=match tlk m.funcs K.mf.2 with
 |none=>none
 |some es=>match tfind name es with
  |some f=>some (some f)
  |none=>match tlk m.traits K.mt.2 with
   |none=>none
   |some ts=>match tfind name ts with
    |none=>some none
    |some trait=>match xs with
     | []=>some none
     |v::_=>match typF K m v with
      |none=>none
      |some none=>some none
      |some (some t)=>match implsF K m with
       |none=>none
       |some l=>implL K trait t name l
def callF (K:Ks) (S:Ss) (r:Rn) (f:Fr) (xs:List Vl):Option (Ss×Rn):=match nodeF K f with
 |none=>none
 |some n=>match n.kind==9 with
  |false=>none
  |true=>match tlk r.maker K.mm.2 with
   |none=>none
   |some m=>match findG K m n.text xs with
    |none=>none
    |some none=>some (failS S r wName)
    |some (some fn)=>match Nat.ble fn.names.length 1000000 with
     |false=>none
     |true=>match Nat.beq xs.length fn.names.length with
     |false=>some (failS S r wType)
     |true=>match decide (f.depth≥60) with
      |true=>some (failS S r wDeep)
      |false=>match withF fn.names xs (S.s,none) with
       |none=>none
       |some R=>some ({ S with s:=R.1 },{ r with cur:=⟨some fn.body,R.2,.nil,IntKind.i64.wrap (f.depth+1),true⟩ })
def becomeF (S:Ss) (r:Rn) (f:Fr) (xs:List Vl):Option (Ss×Rn):=match Nat.ble xs.length 1000000&&Nat.ble r.names.length 1000000 with
 |false=>none
 |true=>match f.inFun||!(Nat.beq xs.length r.names.length) with
  |true=>some (failS S r wType)
  |false=>match anyLF S.c.2 xs with
   |none=>none
   |some true=>some (failS S r wLarge)
   |some false=>match withF r.names xs (S.s,none) with
    |none=>none
    |some R=>some ({ S with s:=R.1 },beginR r xs R.2)
def oNum (k n:Int):Ou:=⟨k,n,⟨#[]⟩,0,0,⟨#[]⟩,[],[]⟩
def askR (R:Ss×Rn):Ss×Rn:=(R.1,{ R.2 with mode:=2 })
def spawnF (K:Ks) (S:Ss) (r:Rn) (n:Nd) (xs:List Vl):Option (Ss×Rn):=match tlk r.maker K.mm.2 with
 |none=>none
 |some m=>match tlk m.actors K.ma.2 with
  |none=>none
  |some es=>match tfind n.text es with
   |none=>some (failS S r wName)
   |some a=>match Nat.beq a.names.length xs.length with
    |false=>some (failS S r wType)
    |true=>match leaveV S.c S.g xs with
     |none=>none
     |some Q=>match eqB Q.1.2 ⟨#[]⟩ with
      |false=>some (failS { S with c:=Q.2.1,g:=Q.2.2 } r Q.1.2)
      |true=>some (askR (tellS { S with c:=Q.2.1,g:=Q.2.2 } r ⟨4,0,n.text,0,0,⟨#[]⟩,[],Q.1.1⟩))
def sendF (S:Ss) (r:Rn) (v:Vl) (vs:List Vl):Option (Ss×Rn):=match leaveV S.c S.g vs with
 |none=>none
 |some Q=>match eqB Q.1.2 ⟨#[]⟩ with
  |false=>some (failS { S with c:=Q.2.1,g:=Q.2.2 } r Q.1.2)
  |true=>match Q.1.1 with
   | []=>none
   |.mk ok on ot oa::_=>some (tellS { S with c:=Q.2.1,g:=Q.2.2 } r ⟨3,v.num,⟨#[]⟩,ok,on,ot,oa,[]⟩)
def wantF (S:Ss) (r:Rn) (v:Vl) (k:Int) (R:Option (Ss×Rn)):Option (Ss×Rn):=match v.kind==k with
 |false=>some (failS S r wType)
 |true=>R
def leaveF (K:Ks) (S:Ss) (r:Rn) (f:Fr) (xs:List Vl):Option (Ss×Rn):=match nodeF K f with
 |none=>none
 |some n=>match n.kind==14 with
  |true=>spawnF K S r n xs
  |false=>match xs with
   | []=>none
   |v::vs=>match n.kind==20 with
    |true=>wantF S r v 2 (some (tellS S r (oNum 2 v.num)))
    |false=>match n.kind==24 with
     |true=>wantF S r v 6 (some (tellS S r (oNum 5 v.num)))
     |false=>match n.kind==25 with
      |true=>wantF S r v 6 (some (tellS S r (oNum 6 v.num)))
      |false=>match n.kind==19 with
       |true=>wantF S r v 4 (some (failS S r v.text))
       |false=>match n.kind==15 with
        |true=>wantF S r v 6 (sendF S r v vs)
        |false=>none
def opNum (op:ByteArray):Bool:=opIs op 43||opIs op 45||opIs op 42||opIs op 47||opIs op 37||opIs op 60
def wNot:ByteArray:=⟨#[110,111,116]⟩
def operateF (op:ByteArray) (xs:List Vl):Option (Vl×ByteArray):=match opNum op with
 |true=>match xs with
  | [a,b]=>match (a.kind==2)&&(b.kind==2) with
    |false=>some (zV,wType)
    |true=>match opIs op 60 with
     |true=>some (vI 3 (bI (decide (a.num<b.num))),⟨#[]⟩)
     |false=>some (arithF op a.num b.num)
  |_=>some (zV,wType)
 |false=>match opIs op 61 with
  |false=>none
  |true=>match xs with
   | [a,b]=>match sameF 60 a b with
     |none=>none
     |some R=>some (vI 3 (bI R.1),R.2)
   |_=>some (zV,wType)
def pushS (S:Ss) (r:Rn) (f:Fr):Option (Ss×Rn):=match r.stack with
 |none=>some ({ S with f:=(S.f.1+1,(S.f.1,[f])::S.f.2) },{ r with stack:=some (S.f.1,1) })
 |some q=>match tlk q.1 S.f.2 with
  |none=>none
  |some l=>match Nat.ble q.2 l.length&&Nat.ble q.2 1000000 with
   |false=>none
   |true=>some ({ S with f:=(S.f.1+1,(S.f.1,l.take q.2++[f])::tdel q.1 S.f.2) },{ r with stack:=some (S.f.1,q.2+1) })
def pushEval (K:Ks) (S:Ss) (r:Rn) (f:Fr) (n:Nd) (j:Nat):Option (Ss×Rn):=match pushS S r f with
 |none=>none
 |some (S2,r2)=>match argF K.a n j with
  |none=>none
  |some c=>some (S2,evalR r2 c f f.sc)
def operatorF (K:Ks) (S:Ss) (r:Rn) (f:Fr):Option (Ss×Rn):=match nodeF K f with
 |none=>none
 |some n=>match valsOf S f.vals with
  |none=>none
  |some xs=>match lazyF n with
   |false=>match operateF n.text xs with
    |none=>none
    |some R=>match eqB R.2 ⟨#[]⟩ with
     |false=>some (failS (frzS S f.vals) r R.2)
     |true=>some (frzS S f.vals,giveR r R.1)
   |true=>match xs with
    | [v]=>match v.kind==3 with
      |false=>some (failS S r wType)
      |true=>match !((!(v.num==0))==eqB n.text wAnd) with
       |true=>some (S,giveR r v)
       |false=>pushEval K S r f n 1
    | [_,v]=>match v.kind==3 with
      |false=>some (failS S r wType)
      |true=>some (S,giveR r v)
    |_=>none
def simpleF (K:Ks) (S:Ss) (r:Rn) (f:Fr) (xs:List Vl):Option ((Vl×ByteArray)×Ss):=match nodeF K f with
 |none=>none
 |some n=>match n.kind==1 with
  |true=>some ((vI 1 0,⟨#[]⟩),S)
  |false=>match n.kind==2 with
   |true=>some ((vI 2 n.num,⟨#[]⟩),S)
   |false=>match n.kind==3 with
    |true=>some ((vI 3 (bI (!(n.num==0))),⟨#[]⟩),S)
    |false=>match n.kind==4 with
     |true=>some ((.mk 4 0 n.text [] none,⟨#[]⟩),S)
     |false=>match n.kind==16 with
      |true=>some ((vI 6 r.self,⟨#[]⟩),S)
      |false=>match n.kind==5 with
       |true=>match findF S.s.2 n.text 1000000 f.sc with
        |none=>none
        |some none=>some ((zV,wName),S)
        |some (some v)=>some ((v,⟨#[]⟩),S)
       |false=>match n.kind==12 with
        |true=>match tlk r.maker K.mm.2 with
         |none=>none
         |some m=>match tlk m.makes K.mc.2 with
          |none=>none
          |some es=>match tfind n.text es with
           |none=>some ((zV,wName),S)
           |some c=>match c.args==(xs.length:Int) with
            |false=>some ((zV,wType),S)
            |true=>match fitF S.c.2 (.mk 5 0 n.text xs none) with
             |none=>none
             |some R=>some (R,S)
        |false=>match n.kind==21 with
         |true=>match xs with
          | []=>none
          |v::_=>match fitF ((S.c.1,⟨false,v⟩)::S.c.2) (.mk 8 0 ⟨#[]⟩ [] (some S.c.1)) with
           |none=>none
           |some R=>some (R,{ S with c:=(S.c.1+1,(S.c.1,⟨false,v⟩)::S.c.2) })
         |false=>match n.kind==22 with
          |true=>match xs with
           | []=>none
           |v::_=>match getF S.c.2 v with
            |none=>none
            |some R=>some (R,S)
          |false=>match n.kind==23 with
           |true=>match xs with
            |v::x::_=>match putF S.c v x with
             |none=>none
             |some R=>some ((vI 1 0,R.1),{ S with c:=R.2 })
            |_=>none
           |false=>some ((zV,wType),S)
def simpleS (K:Ks) (S:Ss) (r:Rn) (f:Fr) (xs:List Vl):Option (Ss×Rn):=match simpleF K S r f xs with
 |none=>none
 |some (R,S2)=>match eqB R.2 ⟨#[]⟩ with
  |false=>some (failS S2 r R.2)
  |true=>some (S2,giveR r R.1)
def lenFV:FV→Nat
 |.nil=>0
 |.lst xs=>xs.length
 |.blk _ n=>n
def letF (K:Ks) (S:Ss) (r:Rn) (f:Fr) (n:Nd) (xs:List Vl):Option (Ss×Rn):=match argF K.a n 1 with
 |none=>none
 |some j=>match xs with
  | []=>none
  |v::_=>some ({ S with s:=(S.s.1+1,(S.s.1,⟨n.text,v,f.sc⟩)::S.s.2) },evalR r j f (some S.s.1))
def goOnF (K:Ks) (S:Ss) (r:Rn) (f:Fr) (n:Nd):Option (Ss×Rn):=match n.kind==6 with
 |true=>match valsOf S f.vals with
  |none=>none
  |some xs=>letF K S r f n xs
 |false=>match n.kind==8 with
  |true=>operatorF K S r f
  |false=>match valsOf S f.vals with
   |none=>none
   |some xs=>match n.kind==7 with
    |true=>chooseF K (frzS S f.vals) r f xs
    |false=>match n.kind==13 with
     |true=>matchSF K (frzS S f.vals) r f xs
     |false=>match (n.kind==9)||(n.kind==11) with
      |true=>callF K (frzS S f.vals) r f xs
      |false=>match n.kind==17 with
       |true=>becomeF (frzS S f.vals) r f xs
       |false=>match (n.kind==15)||(n.kind==14)||(n.kind==20)||(n.kind==24)||(n.kind==25)||(n.kind==19) with
        |true=>leaveF K (frzS S f.vals) r f xs
        |false=>simpleS K (frzS S f.vals) r f xs
def isL:FV→Bool
 |.lst _=>true
 |_=>false
def resumeF (K:Ks) (S:Ss) (r:Rn) (f:Fr):Option (Ss×Rn):=match nodeF K f with
 |none=>none
 |some n=>match isL f.vals with
 |true=>none
 |false=>match decide ((lenFV f.vals:Int)<eagerF n) with
  |true=>pushEval K S r f n (lenFV f.vals)
  |false=>match decide ((lBk n.args:Int)<n.needs) with
   |true=>some (failS S r wType)
   |false=>goOnF K S r f n
def enterF (K:Ks) (S:Ss) (r:Rn) (f:Fr):Option (Ss×Rn):=match nodeF K f with
 |none=>none
 |some n=>match decide (n.needs<0) with
  |true=>some (failS S r wType)
  |false=>match decide ((lBk n.args:Int)<n.needs) with
   |true=>resumeF K S r f
   |false=>match n.kind==10 with
    |true=>none
    |false=>match n.kind==18 with
     |true=>some ({ S with o:=(S.o.1+1,(S.o.1,waitO n)::S.o.2) },waitR r f (waitO n) S.o.1)
     |false=>resumeF K S r f
def pushV (S:Ss) (x:Vl):FV→Option (Ss×FV)
 |.nil=>some ({ S with v:=(S.v.1+1,(S.v.1,[x])::S.v.2) },.blk S.v.1 1)
 |.lst _=>none
 |.blk k n=>match tlk k S.v.2 with
  |none=>none
  |some l=>match Nat.ble n l.length&&Nat.ble n 1000000 with
   |false=>none
   |true=>some ({ S with v:=(S.v.1+1,(S.v.1,l.take n++[x])::tdel k S.v.2) },.blk S.v.1 (n+1))
def endO:Ou:=⟨8,0,⟨#[]⟩,0,0,⟨#[]⟩,[],[]⟩
def stepF (K:Ks) (S:Ss) (r:Rn):Option (Ss×Rn):=match r.cur.n with
 |some _=>enterF K S r r.cur
 |none=>match r.stack with
  |none=>some ({ S with o:=(S.o.1+1,(S.o.1,endO)::S.o.2) },stopR r endO S.o.1)
  |some (_,0)=>some ({ S with o:=(S.o.1+1,(S.o.1,endO)::S.o.2) },stopR r endO S.o.1)
  |some (q,j+1)=>match tlk q S.f.2 with
   |none=>none
   |some l=>match l[j]? with
    |none=>none
    |some f=>match Nat.ble j 2000000 with
    |false=>none
    |true=>match pushV S r.val f.vals with
     |none=>none
     |some (S2,w)=>resumeF K S2 { r with stack:=some (q,j) } { f with vals:=w }
end MN
open Go Go.AM Go.Proofs TK
set_option maxRecDepth 100000
namespace MN
theorem choose_spec (K:Ks) (S:Ss) (zr:Sto Rn) (k:Nat) (r:Rn) (f:Fr) (xs:List Vl) (R:Ss×Rn) (hr:tlk k zr.2=some r) (hf:f.vals=.lst xs) (hF:chooseF K S r f xs=some R):
 AMem Tryz.prog 245 [.p (.adr rS k),.p (.agg (cFr f))] (hA K S zr) (.tup []) (hA K R.1 (zr.1,tset k R.2 zr.2)):=by
 have hfail:=fail_spec zr S.o k wType r hr;obtain⟨f1,f2,f3,f4,f5⟩:=f;dsimp only at hf;subst hf;have he:=fun j=>eval_spec zr k j ⟨f1,f2,.lst xs,f4,f5⟩ f2 r hr;unfold chooseF nodeF at hF;dsimp only at hF
 cases f1 with
 |none=>cases hF
 |some kn=>
  dsimp only at hF
  cases hn:tlk kn K.n.2 with
  |none=>rw[hn]at hF;cases hF
  |some n=>
   rw[hn]at hF
   cases xs with
   |nil=>cases hF
   |cons v xs=>
    obtain⟨vk,vn,vt,va,vc⟩:=v;dsimp only[Vl.kind,Vl.num]at hF;unfold hA hRn hOu hNd hAr cFr at *;dsimp only[eFV]at *
    cases hk:vk==3 with
    |false=>
     rw[hk]at hF;cases hF;refine AMem.intro (tyOf_ok Tryz.prog) hmix Tryz.func245 rfl (by rfl) (by kernel_rfl) (by show 2≤_;decide) rfl ?_;(conv=>whnf);refine aidxn (i:=0) (x:=.agg [.i .i64 vk,.i .i64 vn,.s vt,.sl 5 (eVs va),eP cS vc]) (by rw[eVs_map];simp[eV]) ?_;(conv=>whnf);refine asplit ?_ ?_<;>intro h0<;>conv=>whnf
     ·refine amc [1000000000,1000000001] 300 hfail ?_
      (conv=>whnf);refine⟨.inl rfl,⟨s6,s6,s6,s6,s6,s6,s6,s6,s6,s6,s6,s6,s6,s6,s6,s6,trivial⟩⟩
     ·rw[show(vk==3)=true by simpa using h0]at hk;cases hk
    |true=>
     rw[hk]at hF;dsimp only at hF;generalize hJ:pickJ vn=J at hF;unfold pickJ at hJ
     cases ha:argF K.a n J with
     |none=>rw[ha]at hF;cases hF
     |some j=>
      rw[ha]at hF;cases hF;obtain⟨n1,n2,n3,n4,n5,n6,n7,n8,n9⟩:=n;unfold argF at ha;dsimp only at ha
      cases n5 with
      |none=>cases ha
      |some q=>
       obtain⟨q1,q2⟩:=q;dsimp only at ha
       cases hb:Nat.blt J q2 with
       |false=>rw[hb]at ha;cases ha
       |true=>
        rw[hb]at ha;dsimp only at ha
        cases hl:tlk q1 K.a.2 with
        |none=>rw[hl]at ha;cases ha
        |some l=>
         rw[hl]at ha;dsimp only at ha;have hb1:J<q2:=by rw[Nat.blt_eq]at hb;exact hb
         have he:=he j;cases f2
         all_goals
          refine AMem.intro (tyOf_ok Tryz.prog) hmix Tryz.func245 rfl (by rfl) (by kernel_rfl) (by show 2≤_;decide) rfl ?_;(conv=>whnf);refine aidxn (i:=0) (x:=.agg [.i .i64 vk,.i .i64 vn,.s vt,.sl 5 (eVs va),eP cS vc]) (by rw[eVs_map];simp[eV]) ?_;(conv=>whnf);refine asf (by simpa using hk) ?_;(conv=>whnf);refine asplit ?_ ?_<;>intro h1<;>conv=>whnf
          ·rw[show(vn==0)=false by simpa using h1]at hJ
           subst hJ;refine lpe eNd hn rfl ?_;(conv=>whnf);refine aneed ⟨by decide,hb1⟩ ?_;(conv=>whnf);refine aneed ⟨rfl,by decide,.inr rfl⟩ ?_;refine⟨_,slk_in hl,?_⟩;refine aidxn (i:=1) (x:=.adr nS j) (by unfold eKs;rw[List.getElem?_map,ha];rfl) ?_;(conv=>whnf);refine amc [1000000000] 300 he ?_;(conv=>whnf);refine aneed (.inl (by kernel_rfl)) ?_;(conv=>whnf);refine⟨.inl rfl,⟨s6,s6,s6,s6,s6,s6,s6,s6,s6,s6,s6,s6,s6,s6,s6,s6,trivial⟩⟩
          ·rw[show(vn==0)=true by simpa using h1]at hJ
           subst hJ;refine lpe eNd hn rfl ?_;(conv=>whnf);refine aneed ⟨by decide,hb1⟩ ?_;(conv=>whnf);refine aneed ⟨rfl,by decide,.inr rfl⟩ ?_;refine⟨_,slk_in hl,?_⟩;refine aidxn (i:=2) (x:=.adr nS j) (by unfold eKs;rw[List.getElem?_map,ha];rfl) ?_;(conv=>whnf);refine amc [1000000000] 300 he ?_;(conv=>whnf);refine aneed (.inl (by kernel_rfl)) ?_;(conv=>whnf);refine⟨.inl rfl,⟨s6,s6,s6,s6,s6,s6,s6,s6,s6,s6,s6,s6,s6,s6,s6,s6,trivial⟩⟩
end MN
open Go Go.AM Go.Proofs TK
set_option maxRecDepth 100000
namespace MN
def fuelO:Ou:=oNum 1 0
def curOK (r:Rn):Bool:=match r.cur.n with
 |none=>true
 |some _=>match r.cur.vals with
  |.nil=>true
  |_=>false
def runF (K:Ks):Nat→Ss→Rn→Option (Ou×Ss×Rn)
 |0,S,r=>some (fuelO,S,r)
 |n+1,S,r=>match (r.mode==1)||(r.mode==3) with
  |true=>some (r.last,S,r)
  |false=>match r.mode==2 with
   |true=>some (fuelO,S,r)
   |false=>match curOK r with
   |false=>none
   |true=>match stepF K S r with
    |none=>none
    |some (S2,r2)=>match r2.out with
     |none=>runF K n S2 r2
     |some a=>match tlk a S2.o.2 with
      |none=>none
      |some o=>some (o,S2,{ r2 with out:=none })
def fromF:Ov→Option (Option Vl)
 |.mk k n t _=>match k==1 with
  |true=>some (some (vI 1 0))
  |false=>match (k==2)||(k==6) with
   |true=>some (some (vI k n))
   |false=>match k==3 with
    |true=>match (n==0)||(n==1) with|true=>some (some (vI 3 n))|false=>some none
    |false=>none
def fromAllF:List Ov→Option (Option (List Vl))
 | []=>some (some [])
 |v::r=>match fromF v with
  |none=>none
  |some none=>some none
  |some (some x)=>match fromAllF r with
   |none=>none
   |some none=>some none
   |some (some l)=>some (some (x::l))
def offerF (K:Ks) (S:Ss) (r:Rn) (v:Ov):Option (Bool×Ss×Rn):=match r.mode==1 with
 |false=>some (false,S,r)
 |true=>match fromF v with
  |none=>none
  |some none=>some (false,S,r)
  |some (some x)=>match takeF K S r r.pause x with
   |none=>none
   |some (false,S2,r2)=>some (false,S2,r2)
   |some (true,S2,r2)=>some (true,S2,{ r2 with mode:=0 })
def offersF (K:Ks) (S:Ss) (r:Rn):List Ov→Option (Bool×Ss×Rn×List Ov)
 | []=>some (false,S,r,[])
 |v::l=>match offerF K S r v with
  |none=>none
  |some (true,S2,r2)=>some (true,S2,r2,l)
  |some (false,S2,r2)=>offersF K S2 r2 l
def playG (K:Ks):Nat→Ss→Rn→List Ov→List Ou→Option (List Ou×Ss×Rn)
 |0,_,_,_,_=>none
 |n+1,S,r,l,out=>match runF K 400 S r with
  |none=>none
  |some (o,S2,r2)=>match o.kind==1 with
   |true=>playG K n S2 r2 l out
   |false=>match o.kind==8 with
    |true=>some (out++[o],S2,r2)
    |false=>match o.kind==9 with
     |true=>some (out++[o],S2,r2)
     |false=>match o.kind==4 with
      |true=>none
      |false=>match o.kind==7 with
       |false=>playG K n S2 r2 l (out++[o])
       |true=>match offersF K S2 r2 l with
        |none=>none
        |some (false,S3,r3,_)=>some (out++[o],S3,r3)
        |some (true,S3,r3,l3)=>playG K n S3 r3 l3 (out++[o])
end MN
