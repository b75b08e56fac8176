/- Contracts, and the law, for every input. No conditions. -/
import Derived.Test.YtdmopjgjhfhfdaaGreatDoorAMRngD
import Derived.Test.YtdmopjgjhfhfdaaGreatDoorTR1
import Derived.Test.YtdmopjgjhfhfdaaGreatDoorChecked
import Derived.Test.YtdmopjgjhfhfdaaGreatDoorMN5
import Derived.Lib.Strings
import Derived.Lib.Slices
import Derived.Lib.Walk
import Derived.Lib.Bytealg
set_option linter.all false
section
open Go Go.AM Go.Proofs TK
set_option maxRecDepth 100000
namespace MN
structure Ar where
 pat:TR.Pt
 body:Nat
def Ql (a:Ar):PV:=.agg ((TR.eP a.pat).cells++[.bH nS a.body])
def Fm (l:List Ar):List PV:=l.map Ql
def K8 (z:bf (List Ar)):br:=.store 169 false bS z.1 5 (cC Fm z.2)
def oG (z:bf (List Vl)):br:=.store 139 false vS z.1 5 (cC bu z.2)
def vN (l:List Fr):List PV:=l.map fun f=>.agg (dX f)
def J9 (z:bf (List Fr)):br:=.store 136 false fS z.1 5 (cC vN z.2)
structure Fn where
 names:List ByteArray
 body:Nat
structure Cn where
 data:ByteArray
 args:Int
structure Im where
 trait:ByteArray
 typ:ByteArray
 funcs:Nat
structure Mk where
 funs:Option (Nat×Nat)
 makes:Nat
 funcs:Nat
 traits:Nat
 impls:Option (Nat×Nat)
 actors:Nat
abbrev cM:Nat:=21
abbrev fM:Nat:=22
abbrev tM:Nat:=23
abbrev aM:Nat:=24
abbrev iS:Nat:=25
def iU (m:Mk):List PV:=[.agg [O8 aS m.funs,.amp cM m.makes,.amp fM m.funcs,.amp tM m.traits,O8 iS m.impls,.amp aM m.actors]]
def sG (z:bf Mk):br:=.store 84 true mS z.1 6 (cC iU z.2)
def eFn (f:Fn):PV:=.agg [.sl 1 (f.names.map .s),.bH nS f.body]
def zu (c:Cn):PV:=.agg [.s c.data,.i .i64 c.args]
def Qk (x:Im):PV:=.agg [.s x.trait,.s x.typ,.amp fM x.funcs]
def Ce (l:List Im):List PV:=l.map Qk
def MW (z:bf (List Im)):br:=.store 108 false iS z.1 3 (cC Ce z.2)
abbrev TM (α:Type):=List (ByteArray×α)
def jB {α:Type} (enc:α→PV) (es:TM α):List (PV×PV):=es.map fun e=>(.s e.1,enc e.2)
def bX {α:Type} (enc:α→PV) (es:TM α):List PV:=(jB enc es).map IM
def Mt (z:bf (TM Cn)):br:=.store 77 true cM z.1 0 (cC (bX zu) z.2)
def K6 (z:bf (TM Fn)):br:=.store 78 true fM z.1 0 (cC (bX eFn) z.2)
def LX (z:bf (TM ByteArray)):br:=.store 79 true tM z.1 0 (cC (bX .s) z.2)
def Gy (z:bf (TM Fn)):br:=.store 80 true aM z.1 0 (cC (bX eFn) z.2)
def bq {α:Type} (k:ByteArray):TM α→Option α
 | []=>none
 |(a,v)::r=>match k==a with|true=>some v|false=>bq k r
theorem bQ {α:Type} (enc:α→PV) (k:ByteArray) (d:PV):∀es:TM α,pV (.s k) d (jB enc es)=(((bq k es).map enc).getD d,(bq k es).isSome):=by
 intro es;unfold pV
 have:j9 (.s k) (jB enc es)=(bq k es).map enc:=by
  induction es with
  |nil=>rfl
  |cons e r ih=>
   obtain⟨a,v⟩:=e;show(match tc (.s k) (.s a) with|true=>some (enc v)|false=>j9 (.s k) (jB enc r))=_;rw[bq,ih];have:tc (.s k) (.s a)=(k==a):=rfl;rw[this];cases k==a<;>rfl
 rw[this]
 cases bq k es<;>rfl
structure Ks where
 n:bf Nd
 a:bf (List Nat)
 b:bf (List Ar)
 mm:bf Mk
 mc:bf (TM Cn)
 mf:bf (TM Fn)
 mt:bf (TM ByteArray)
 im:bf (List Im)
 ma:bf (TM Fn)
structure Ss where
 o:bf Ou
 s:bf Sc
 v:bf (List Vl)
 f:bf (List Fr)
 c:bf Cl
 g:bf (List Nat)
def hA (K:Ks) (S:Ss) (zr:bf Rn):Heap:=
 [(1000000000,iE zr),(1000000001,CH S.o),(1000000002,iH K.n),(1000000003,xS K.a),(1000000004,K8 K.b),(1000000005,zX sS S.s),(1000000006,oG S.v),(1000000007,J9 S.f),(1000000008,kH S.c),
  (1000000009,sG K.mm),(1000000010,Mt K.mc),(1000000011,K6 K.mf),(1000000012,LX K.mt),(1000000013,MW K.im),(1000000014,Gy K.ma),(1000000015,IQ S.g)]
def B5 (K:Ks) (S:Ss) (zr:bf Rn):List br:=[iE zr,CH S.o,iH K.n,xS K.a,K8 K.b,zX sS S.s,oG S.v,J9 S.f,kH S.c,sG K.mm,Mt K.mc,K6 K.mf,LX K.mt,MW K.im,Gy K.ma,IQ S.g]
abbrev iA:List Nat:=[1000000000,1000000001,1000000002,1000000003,1000000004,1000000005,1000000006,1000000007,1000000008,1000000009,1000000010,1000000011,1000000012,1000000013,1000000014,1000000015]
abbrev iB:List Nat:=[1000000000,1000000001,1000000002,1000000003,1000000004,1000000005,1000000006,1000000007,1000000008]
abbrev iD:List Nat:=[1000000001,1000000002,1000000003,1000000004,1000000005,1000000006,1000000007,1000000008,1000000009,1000000010,1000000011,1000000012,1000000013,1000000014,1000000015,1000000016]
theorem KC {P:Program} {f:Nat} {args args2:List AV} {H H':Heap} {r:AV} (h:av P f args2 H r H') (hlen:args.length=args2.length)
 (hargs:∀(j:Nat) (a b:AV),args[j]?=some a→args2[j]?=some b→(a=b)∨∃p q,a=.p p∧b=.p q∧∀M v,aZ M v p→aZ M v q):av P f args H r H':=by
 obtain⟨hb,hc⟩:=h;refine⟨hb,fun g w vs hH hbn hvl hrel=>hc g w vs hH hbn (hvl.trans hlen) (fun j v b q1 q2=>?_)⟩;have hj:j<args.length:=by rw[hlen];exact(List.getElem?_eq_some_iff.1 q2).1
 have hr:=hrel j v args[j] q1 (List.getElem?_eq_getElem hj);rcases hargs j args[j] b (List.getElem?_eq_getElem hj) q2 with e|⟨p,q,e1,e2,hpq⟩
 ·rw[←e];exact hr
 ·rw[e1]at hr;subst e2
  exact .p _ _ _ (hpq _ _ hr.pv)
theorem F8 {α:Type} (enc:α→List PV) (a nx:Nat) (z:List (Nat×α)) (T:Nat) (one:Bool) (sp sz:Nat):br.store T one sp nx sz (cC enc (gW a z))=.store T one sp nx sz (mH a (cC enc z)):=by rw[uo]
theorem PN {fn:Nat} {K:Ks} {S:Ss} {zr:bf Rn} {H':Heap} {r:AV} {k kk n:Nat} {f:Fr} {xs:List Vl} (hgl:fK (hA K S zr) H'=true) (hk:aK kk S.v.2=some xs) (hn:n≤xs.length)
 (h:av Tryz.prog fn [.p (.bH rS k),.p (.agg (dX { f with vals:=.nA (xs.take n) }))] (hA K { S with v:=(S.v.1,gW kk S.v.2) } zr) r H'):
 av Tryz.prog fn [.p (.bH rS k),.p (.agg (dX { f with vals:=.blk kk n }))] (hA K S zr) r H':=by
 have hlen:(bu xs).length=xs.length:=by rw[aR];simp
 refine av.freeze (l:=1000000006) (T:=139) (one:=false) (sp:=vS) (nx:=S.v.1) (sz:=5) (k:=kk) (n:=n) (M:=cC bu S.v.2) (xs:=bu xs) h hgl rfl ?_ (aq hk) (by rw[hlen];exact hn) (by decide) rfl ?_
 ·intro x
  unfold hA oG;rw[F8]
  cases hb:Nat.beq 1000000006 x with
  |true=>
   have hx:=(Nat.eq_of_beq_eq_true hb).symm;subst hx;rfl
  |false=>simp only[aG,hb]
 ·intro j a b h1 h2
  rcases j with _|_|j
  ·cases h1;cases h2;exact .inl ⟨rfl,fun _ _ q=>by cases q⟩
  ·cases h1;cases h2
   refine .inr ⟨_,_,rfl,rfl,.agg _ _ rfl ?_⟩;intro j a b g1 g2;rcases j with _|_|_|j
   ·cases g1;cases g2;exact .refl _
   ·cases g1;cases g2;exact .refl _
   ·cases g1;cases g2
    show Lc _ _ _ _ _ (.jR vS kk n) (.sl 5 (bu (xs.take n)));rw[show bu (xs.take n)=(bu xs).take n by rw[aR,aR,List.map_take]];exact .jR
   ·have e:a=b:=by
     rcases j with _|_|j
     ·cases g1;cases g2;rfl
     ·cases g1;cases g2;rfl
     ·cases g1
    rw[e];exact .refl _
  ·cases h1
theorem Pv {fn:Nat} {H H':Heap} {r:AV} {k:Nat} {f:Fr} (h:av Tryz.prog fn [.p (.bH rS k),.p (.agg (dX { f with vals:=.nA [] }))] H r H'):
 av Tryz.prog fn [.p (.bH rS k),.p (.agg (dX { f with vals:=.nil }))] H r H':=by
 refine KC h rfl ?_;intro j a b h1 h2;rcases j with _|_|j
 ·cases h1;cases h2;exact .inl rfl
 ·cases h1;cases h2
  refine .inr ⟨_,_,rfl,rfl,fun M v hr=>?_⟩
  cases hr with
  |agg vs _ hl2 h1 hx=>
   refine .agg vs _ hl2 h1 (fun j v x q1 q2=>?_);rcases j with _|_|_|j
   ·exact hx _ _ _ q1 q2
   ·exact hx _ _ _ q1 q2
   ·cases q2
    have:=hx 2 v .sj q1 rfl
    cases this;exact .nil 5
   ·exact hx (j+3) v x q1 q2
 ·cases h1
end MN
end
section
open Go Go.AM Go.Proofs TK
set_option maxRecDepth 100000
namespace MN
def Ac:ByteArray:=⟨#[110,97,109,101]⟩
def I8:ByteArray:=⟨#[109,97,116,99,104]⟩
def GN:ByteArray:=⟨#[100,101,101,112]⟩
def jV (a b:ByteArray):Bool:=a.toList==b.toList
def dQ (S:Ss) (r:Rn) (why:ByteArray):Ss×Rn:=({ S with o:=(S.o.1+1,(S.o.1,Cu why)::S.o.2) },tY r (Cu why) S.o.1)
def mQ (S:Ss) (r:Rn) (o:Ou):Ss×Rn:=({ S with o:=(S.o.1+1,(S.o.1,o)::S.o.2) },yz r S.o.1)
def jS (r:Rn) (v:Vl):Rn:={ r with cur:={ r.cur with n:=none },val:=v }
def dA (K:Ks) (f:Fr):Option Nd:=match f.n with|none=>none|some k=>aK k K.n.2
def bJ (S:Ss):FV→Option (List Vl)
 |.nil=>some []
 |.nA xs=>some xs
 |.blk k n=>match aK k S.v.2 with
  |none=>none
  |some xs=>match Nat.ble n xs.length&&Nat.ble n 2000000 with|true=>some (xs.take n)|false=>none
def dS (S:Ss):FV→Ss
 |.blk k _=>{ S with v:=(S.v.1,gW k S.v.2) }
 |_=>S
def Dy (n:Int):Nat:=match n==0 with|true=>2|false=>1
def lY (K:Ks) (S:Ss) (r:Rn) (f:Fr) (xs:List Vl):Option (Ss×Rn):=match dA K f with
 |none=>none
 |some n=>match xs with
  | []=>none
  |v::_=>match v.kind==3 with
   |false=>some (dQ S r cG)
   |true=>match ja K.a n (Dy v.num) with
    |none=>none
    |some j=>some (S,jU r j f f.sc)
def Nx:TR.Pt→Int
 |.mk _ n _ _=>n
def pM (g:TR.Pt→Vl→bf Sc×Option Nat→Option (Bool×(bf Sc×Option Nat))):List TR.Pt→List Vl→bf Sc×Option Nat→Option (Bool×(bf Sc×Option Nat))
 | [],_,z=>some (true,z)
 |_::_,[],_=>none
 |x::r,v::s,z=>match g x v z with
  |none=>none
  |some (false,z2)=>some (false,z2)
  |some (true,z2)=>pM g r s z2
def mB:Nat→TR.Pt→Vl→bf Sc×Option Nat→Option (Bool×(bf Sc×Option Nat))
 |0,_,_,_=>none
 |n+1,p,v,z=>match p.kind==1 with
  |true=>some (true,z)
  |false=>match p.kind==2 with
   |true=>some (true,((z.1.1+1,(z.1.1,⟨p.text,v,z.2⟩)::z.1.2),some z.1.1))
   |false=>match p.kind==3 with
    |true=>some ((v.kind==2)&&(v.num==Nx p),z)
    |false=>match p.kind==4 with
     |true=>some ((v.kind==3)&&(v.num==Nx p),z)
     |false=>match p.kind==5 with
      |true=>some ((v.kind==4)&&jV v.text p.text,z)
      |false=>match p.kind==6 with
       |false=>some (false,z)
       |true=>match !(v.kind==5)||!(jV v.text p.text)||!(Nat.beq v.args.length p.args.length) with
        |true=>some (false,z)
        |false=>match Nat.ble p.args.length 2000000 with
         |false=>none
         |true=>pM (mB n) p.args v.args z
def vg (K:Ks) (n:Nd):Option (List Ar):=match n.dU with
 |none=>some []
 |some q=>match aK q.1 K.b.2 with
  |none=>none
  |some l=>match Nat.ble q.2 l.length&&Nat.ble q.2 2000000 with|true=>some (l.take q.2)|false=>none
def mj (f:Fr) (v:Vl):List Ar→Ss→Rn→Option (Bool×Ss×Rn)
 | [],S,r=>some (false,S,r)
 |a::l,S,r=>match mB (TR.wP a.pat) a.pat v (S.s,f.sc) with
  |none=>none
  |some (true,z)=>some (true,{ S with s:=z.1 },jU r a.body f z.2)
  |some (false,z)=>mj f v l { S with s:=z.1 } r
def oB (K:Ks) (S:Ss) (r:Rn) (f:Fr) (v:Vl):Option (Bool×Ss×Rn):=match dA K f with
 |none=>none
 |some n=>match vg K n with
  |none=>none
  |some l=>mj f v l S r
def kA (K:Ks) (S:Ss) (r:Rn) (f:Fr) (xs:List Vl):Option (Ss×Rn):=match xs with
 | []=>none
 |v::_=>match oB K S r f v with
  |none=>none
  |some (true,S2,r2)=>some (S2,r2)
  |some (false,S2,r2)=>some (dQ S2 r2 I8)
def Dl (K:Ks) (m:Mk) (v:Vl):Option (Option ByteArray):=match v.kind==5 with
 |true=>match aK m.makes K.mc.2 with
  |none=>none
  |some es=>match bq v.text es with
   |none=>some none
   |some c=>some (some c.data)
 |false=>match jV (oL v.kind) ⟨#[]⟩ with
  |true=>some none
  |false=>some (some (oL v.kind))
def qM (K:Ks) (trait typ name:ByteArray):List Im→Option (Option Fn)
 | []=>some none
 |x::r=>match jV x.trait trait&&jV x.typ typ with
  |true=>match aK x.funcs K.mf.2 with
   |none=>none
   |some es=>some (bq name es)
  |false=>qM K trait typ name r
def uS (K:Ks) (m:Mk):Option (List Im):=match m.impls with
 |none=>some []
 |some q=>match aK q.1 K.im.2 with
  |none=>none
  |some l=>match Nat.ble q.2 l.length&&Nat.ble q.2 2000000 with|true=>some (l.take q.2)|false=>none
def ri (K:Ks) (m:Mk) (name:ByteArray) (xs:List Vl):Option (Option Fn):=match aK m.funcs K.mf.2 with
 |none=>none
 |some es=>match bq name es with
  |some f=>some (some f)
  |none=>match aK m.traits K.mt.2 with
   |none=>none
   |some ts=>match bq name ts with
    |none=>some none
    |some trait=>match xs with
     | []=>some none
     |v::_=>match Dl K m v with
      |none=>none
      |some none=>some none
      |some (some t)=>match uS K m with
       |none=>none
       |some l=>qM K trait t name l
def zD (K:Ks) (mk:Mk) (j:Nat):Option Nat:=match mk.funs with
 |none=>none
 |some q=>match Nat.blt j q.2 with
  |false=>none
  |true=>match aK q.1 K.a.2 with
   |none=>none
   |some l=>l[j]?
def zw (t:ByteArray) (l:List Vl):List ByteArray→Nat→Nat→bf Sc×Option Nat→Option (bf Sc×Option Nat)
 | [],_,_,z=>some z
 |n::r,i,k,z=>match Nat.blt i t.size with
  |false=>none
  |true=>match (((t[i]?).getD 0).toNat:Int)==49 with
   |false=>zw t l r (i+1) k z
   |true=>match l[k]? with
    |none=>none
    |some v=>zw t l r (i+1) (k+1) ((z.1.1+1,(z.1.1,⟨n,v,z.2⟩)::z.1.2),some z.1.1)
def Cy (S:Ss) (r:Rn) (f:Fr) (names:List ByteArray) (body:Nat) (sc:Option Nat) (xs:List Vl):Option (Ss×Rn):=match Nat.ble names.length 2000000 with
 |false=>none
 |true=>match Nat.beq xs.length names.length with
  |false=>some (dQ S r cG)
  |true=>match decide (f.depth≥60) with
   |true=>some (dQ S r GN)
   |false=>match lD names xs (S.s,sc) with
    |none=>none
    |some R=>some ({ S with s:=R.1 },{ r with cur:=⟨some body,R.2,.nil,IntKind.i64.wrap (f.depth+1),true⟩ })
def uM (K:Ks) (S:Ss) (r:Rn) (f:Fr) (xs:List Vl):Option (Ss×Rn):=match xs with
 | []=>none
 |v::vs=>match v.kind==7 with
  |false=>some (dQ S r cG)
  |true=>match aK r.maker K.mm.2 with
   |none=>none
   |some m=>match (v.num.toNat:Int)==v.num with
    |false=>none
    |true=>match zD K m v.num.toNat with
     |none=>none
     |some c=>match aK c K.n.2 with
      |none=>none
      |some n=>match ja K.a n 0 with
       |none=>none
       |some b=>match Nat.ble n.free.length 2000000 with
        |false=>none
        |true=>match zw v.text v.args n.free 0 0 (S.s,none) with
         |none=>none
         |some Q=>Cy { S with s:=Q.1 } r f n.names b Q.2 vs
def sW (K:Ks) (S:Ss) (r:Rn) (f:Fr) (xs:List Vl):Option (Ss×Rn):=match dA K f with
 |none=>none
 |some n=>match n.kind==9 with
  |false=>uM K S r f xs
  |true=>match aK r.maker K.mm.2 with
   |none=>none
   |some m=>match ri K m n.text xs with
    |none=>none
    |some none=>some (dQ S r Ac)
    |some (some fn)=>match Nat.ble fn.names.length 2000000 with
     |false=>none
     |true=>match Nat.beq xs.length fn.names.length with
     |false=>some (dQ S r cG)
     |true=>match decide (f.depth≥60) with
      |true=>some (dQ S r GN)
      |false=>match lD fn.names xs (S.s,none) with
       |none=>none
       |some R=>some ({ S with s:=R.1 },{ r with cur:=⟨some fn.body,R.2,.nil,IntKind.i64.wrap (f.depth+1),true⟩ })
def lZ (S:Ss) (r:Rn) (f:Fr) (xs:List Vl):Option (Ss×Rn):=match Nat.ble xs.length 2000000&&Nat.ble r.names.length 2000000 with
 |false=>none
 |true=>match f.inFun||!(Nat.beq xs.length r.names.length) with
  |true=>some (dQ S r cG)
  |false=>match lP S.c.2 xs with
   |none=>none
   |some true=>some (dQ S r kQ)
   |some false=>match lD r.names xs (S.s,none) with
    |none=>none
    |some R=>some ({ S with s:=R.1 },B8 r xs R.2)
def zy (k n:Int):Ou:=⟨k,n,⟨#[]⟩,0,0,⟨#[]⟩,[],[]⟩
def NA (R:Ss×Rn):Ss×Rn:=(R.1,{ R.2 with mode:=2 })
def uv (K:Ks) (S:Ss) (r:Rn) (n:Nd) (xs:List Vl):Option (Ss×Rn):=match aK r.maker K.mm.2 with
 |none=>none
 |some m=>match aK m.actors K.ma.2 with
  |none=>none
  |some es=>match bq n.text es with
   |none=>some (dQ S r Ac)
   |some a=>match Nat.beq a.names.length xs.length with
    |false=>some (dQ S r cG)
    |true=>match oc S.c S.g xs with
     |none=>none
     |some Q=>match jV Q.1.2 ⟨#[]⟩ with
      |false=>some (dQ { S with c:=Q.2.1,g:=Q.2.2 } r Q.1.2)
      |true=>some (NA (mQ { S with c:=Q.2.1,g:=Q.2.2 } r ⟨4,0,n.text,0,0,⟨#[]⟩,[],Q.1.1⟩))
def AR (S:Ss) (r:Rn) (v:Vl) (vs:List Vl):Option (Ss×Rn):=match oc S.c S.g vs with
 |none=>none
 |some Q=>match jV Q.1.2 ⟨#[]⟩ with
  |false=>some (dQ { S with c:=Q.2.1,g:=Q.2.2 } r Q.1.2)
  |true=>match Q.1.1 with
   | []=>none
   |.mk ok on ot oa::_=>some (mQ { S with c:=Q.2.1,g:=Q.2.2 } r ⟨3,v.num,⟨#[]⟩,ok,on,ot,oa,[]⟩)
def jc (S:Ss) (r:Rn) (v:Vl) (k:Int) (R:Option (Ss×Rn)):Option (Ss×Rn):=match v.kind==k with
 |false=>some (dQ S r cG)
 |true=>R
def pG (K:Ks) (S:Ss) (r:Rn) (f:Fr) (xs:List Vl):Option (Ss×Rn):=match dA K f with
 |none=>none
 |some n=>match n.kind==14 with
  |true=>uv K S r n xs
  |false=>match xs with
   | []=>none
   |v::vs=>match n.kind==20 with
    |true=>jc S r v 2 (some (mQ S r (zy 2 v.num)))
    |false=>match n.kind==24 with
     |true=>jc S r v 6 (some (mQ S r (zy 5 v.num)))
     |false=>match n.kind==25 with
      |true=>jc S r v 6 (some (mQ S r (zy 6 v.num)))
      |false=>match n.kind==19 with
       |true=>jc S r v 4 (some (dQ S r v.text))
       |false=>match n.kind==15 with
        |true=>jc S r v 6 (AR S r v vs)
        |false=>none
def lN (op:ByteArray):Bool:=cO op 43||cO op 45||cO op 42||cO op 47||cO op 37||cO op 60
def HD:ByteArray:=⟨#[110,111,116]⟩
def Em:ByteArray:=⟨#[94]⟩
def dW (op:ByteArray) (xs:List Vl):Option (Vl×ByteArray):=match lN op with
 |true=>match xs with
  | [a,b]=>match (a.kind==2)&&(b.kind==2) with
    |false=>some (zV,cG)
    |true=>match cO op 60 with
     |true=>some (vI 3 (bI (decide (a.num<b.num))),⟨#[]⟩)
     |false=>some (oo op a.num b.num)
  |_=>some (zV,cG)
 |false=>match cO op 61 with
  |true=>match xs with
   | [a,b]=>match qV (lE a) a b with
     |none=>none
     |some R=>some (vI 3 (bI R.1),R.2)
   |_=>some (zV,cG)
  |false=>match op.toList==Em.toList with
   |true=>match xs with
    | [a,b]=>match (a.kind==4)&&(b.kind==4) with
      |false=>some (zV,cG)
      |true=>match Nat.ble (a.text.size+b.text.size) 9223372036854775807 with
       |false=>none
       |true=>match decide (((a.text++b.text).size:Int)>64) with
        |true=>some (zV,kQ)
        |false=>some (.mk 4 0 (a.text++b.text) [] none,⟨#[]⟩)
    |_=>some (zV,cG)
   |false=>match op.toList==HD.toList with
    |false=>some (zV,cG)
    |true=>match xs with
     | [a]=>match a.kind==3 with
       |false=>some (zV,cG)
       |true=>some (vI 3 (bI (a.num==0)),⟨#[]⟩)
     |_=>some (zV,cG)
def tQ (S:Ss) (r:Rn) (f:Fr):Option (Ss×Rn):=match r.stack with
 |none=>some ({ S with f:=(S.f.1+1,(S.f.1,[f])::S.f.2) },{ r with stack:=some (S.f.1,1) })
 |some q=>match aK q.1 S.f.2 with
  |none=>none
  |some l=>match Nat.ble q.2 l.length&&Nat.ble q.2 2000000 with
   |false=>none
   |true=>some ({ S with f:=(S.f.1+1,(S.f.1,l.take q.2++[f])::gW q.1 S.f.2) },{ r with stack:=some (S.f.1,q.2+1) })
def ga (K:Ks) (S:Ss) (r:Rn) (f:Fr) (n:Nd) (j:Nat):Option (Ss×Rn):=match tQ S r f with
 |none=>none
 |some (S2,r2)=>match ja K.a n j with
  |none=>none
  |some c=>some (S2,jU r2 c f f.sc)
def jn (K:Ks) (S:Ss) (r:Rn) (f:Fr):Option (Ss×Rn):=match dA K f with
 |none=>none
 |some n=>match bJ S f.vals with
  |none=>none
  |some xs=>match gH n with
   |false=>match dW n.text xs with
    |none=>none
    |some R=>match jV R.2 ⟨#[]⟩ with
     |false=>some (dQ (dS S f.vals) r R.2)
     |true=>some (dS S f.vals,jS r R.1)
   |true=>match xs with
    | [v]=>match v.kind==3 with
      |false=>some (dQ S r cG)
      |true=>match !((!(v.num==0))==jV n.text Fc) with
       |true=>some (S,jS r v)
       |false=>ga K S r f n 1
    | [_,v]=>match v.kind==3 with
      |false=>some (dQ S r cG)
      |true=>some (S,jS r v)
    |_=>none
def mh (K:Ks) (S:Ss) (r:Rn) (f:Fr) (xs:List Vl):Option ((Vl×ByteArray)×Ss):=match dA K f with
 |none=>none
 |some n=>match n.kind==1 with
  |true=>some ((vI 1 0,⟨#[]⟩),S)
  |false=>match n.kind==2 with
   |true=>some ((vI 2 n.num,⟨#[]⟩),S)
   |false=>match n.kind==3 with
    |true=>some ((vI 3 (bI (!(n.num==0))),⟨#[]⟩),S)
    |false=>match n.kind==4 with
     |true=>some ((.mk 4 0 n.text [] none,⟨#[]⟩),S)
     |false=>match n.kind==16 with
      |true=>some ((vI 6 r.self,⟨#[]⟩),S)
      |false=>match n.kind==5 with
       |true=>match findF S.s.2 n.text (S.s.1+1) f.sc with
        |none=>none
        |some none=>some ((zV,Ac),S)
        |some (some v)=>some ((v,⟨#[]⟩),S)
       |false=>match n.kind==12 with
        |true=>match aK r.maker K.mm.2 with
         |none=>none
         |some m=>match aK m.makes K.mc.2 with
          |none=>none
          |some es=>match bq n.text es with
           |none=>some ((zV,Ac),S)
           |some c=>match c.args==(xs.length:Int) with
            |false=>some ((zV,cG),S)
            |true=>match BH S.c.2 (.mk 5 0 n.text xs none) with
             |none=>none
             |some R=>some (R,S)
        |false=>match n.kind==21 with
         |true=>match xs with
          | []=>none
          |v::_=>match BH ((S.c.1,⟨false,v⟩)::S.c.2) (.mk 8 0 ⟨#[]⟩ [] (some S.c.1)) with
           |none=>none
           |some R=>some (R,{ S with c:=(S.c.1+1,(S.c.1,⟨false,v⟩)::S.c.2) })
         |false=>match n.kind==22 with
          |true=>match xs with
           | []=>none
           |v::_=>match Fh S.c.2 v with
            |none=>none
            |some R=>some (R,S)
          |false=>match n.kind==23 with
           |true=>match xs with
            |v::x::_=>match FU S.c v x with
             |none=>none
             |some R=>some ((vI 1 0,R.1),{ S with c:=R.2 })
            |_=>none
           |false=>some ((zV,cG),S)
def qj (K:Ks) (S:Ss) (r:Rn) (f:Fr) (xs:List Vl):Option (Ss×Rn):=match mh K S r f xs with
 |none=>none
 |some (R,S2)=>match jV R.2 ⟨#[]⟩ with
  |false=>some (dQ S2 r R.2)
  |true=>some (S2,jS r R.1)
def eC:FV→Nat
 |.nil=>0
 |.nA xs=>xs.length
 |.blk _ n=>n
def A1 (K:Ks) (S:Ss) (r:Rn) (f:Fr) (n:Nd) (xs:List Vl):Option (Ss×Rn):=match ja K.a n 1 with
 |none=>none
 |some j=>match xs with
  | []=>none
  |v::_=>some ({ S with s:=(S.s.1+1,(S.s.1,⟨n.text,v,f.sc⟩)::S.s.2) },jU r j f (some S.s.1))
def eH (K:Ks) (S:Ss) (r:Rn) (f:Fr) (n:Nd):Option (Ss×Rn):=match n.kind==6 with
 |true=>match bJ S f.vals with
  |none=>none
  |some xs=>A1 K S r f n xs
 |false=>match n.kind==8 with
  |true=>jn K S r f
  |false=>match bJ S f.vals with
   |none=>none
   |some xs=>match n.kind==7 with
    |true=>lY K (dS S f.vals) r f xs
    |false=>match n.kind==13 with
     |true=>kA K (dS S f.vals) r f xs
     |false=>match (n.kind==9)||(n.kind==11) with
      |true=>sW K (dS S f.vals) r f xs
      |false=>match n.kind==17 with
       |true=>lZ (dS S f.vals) r f xs
       |false=>match (n.kind==15)||(n.kind==14)||(n.kind==20)||(n.kind==24)||(n.kind==25)||(n.kind==19) with
        |true=>pG K (dS S f.vals) r f xs
        |false=>qj K (dS S f.vals) r f xs
def vQ (M:List (Nat×Sc)) (fu:Nat) (sc:Option Nat):List ByteArray→List Int×List Vl→Option (List Int×List Vl)
 | [],q=>some q
 |s::r,q=>match findF M s fu sc with
  |none=>none
  |some none=>vQ M fu sc r (q.1++[48],q.2)
  |some (some v)=>vQ M fu sc r (q.1++[49],q.2++[v])
def uy (K:Ks) (S:Ss) (r:Rn) (f:Fr) (n:Nd):Option (Ss×Rn):=match Nat.ble n.free.length 2000000 with
 |false=>none
 |true=>match vQ S.s.2 (S.s.1+1) f.sc n.free ([],[]) with
  |none=>none
  |some q=>match iX S.c.2 (.mk 7 n.fn (iZ q.1) q.2 none) with
   |none=>none
   |some true=>some (dQ S r kQ)
   |some false=>some (S,jS r (.mk 7 n.fn (iZ q.1) q.2 none))
def yu:FV→Bool
 |.nA _=>true
 |_=>false
def gR (K:Ks) (S:Ss) (r:Rn) (f:Fr):Option (Ss×Rn):=match dA K f with
 |none=>none
 |some n=>match yu f.vals with
 |true=>none
 |false=>match decide ((eC f.vals:Int)<gJ n) with
  |true=>ga K S r f n (eC f.vals)
  |false=>match decide ((gA n.args:Int)<n.needs) with
   |true=>some (dQ S r cG)
   |false=>eH K S r f n
def uE (K:Ks) (S:Ss) (r:Rn) (f:Fr):Option (Ss×Rn):=match dA K f with
 |none=>none
 |some n=>match decide (n.needs<0) with
  |true=>some (dQ S r cG)
  |false=>match decide ((gA n.args:Int)<n.needs) with
   |true=>gR K S r f
   |false=>match n.kind==10 with
    |true=>uy K S r f n
    |false=>match n.kind==18 with
     |true=>some ({ S with o:=(S.o.1+1,(S.o.1,qP n)::S.o.2) },Jl r f (qP n) S.o.1)
     |false=>gR K S r f
def AJ (S:Ss) (x:Vl):FV→Option (Ss×FV)
 |.nil=>some ({ S with v:=(S.v.1+1,(S.v.1,[x])::S.v.2) },.blk S.v.1 1)
 |.nA _=>none
 |.blk k n=>match aK k S.v.2 with
  |none=>none
  |some l=>match Nat.ble n l.length&&Nat.ble n 2000000 with
   |false=>none
   |true=>some ({ S with v:=(S.v.1+1,(S.v.1,l.take n++[x])::gW k S.v.2) },.blk S.v.1 (n+1))
def DG:Ou:=⟨8,0,⟨#[]⟩,0,0,⟨#[]⟩,[],[]⟩
def qU (K:Ks) (S:Ss) (r:Rn):Option (Ss×Rn):=match r.cur.n with
 |some _=>uE K S r r.cur
 |none=>match r.stack with
  |none=>some ({ S with o:=(S.o.1+1,(S.o.1,DG)::S.o.2) },tY r DG S.o.1)
  |some (_,0)=>some ({ S with o:=(S.o.1+1,(S.o.1,DG)::S.o.2) },tY r DG S.o.1)
  |some (q,j+1)=>match aK q S.f.2 with
   |none=>none
   |some l=>match l[j]? with
    |none=>none
    |some f=>match Nat.ble j 2000000 with
    |false=>none
    |true=>match AJ S r.val f.vals with
     |none=>none
     |some (S2,w)=>gR K S2 { r with stack:=some (q,j) } { f with vals:=w }
end MN
end
section
open Go Go.AM Go.Proofs TK
set_option maxRecDepth 100000
namespace MN
theorem choose_spec (K:Ks) (S:Ss) (zr:bf Rn) (k:Nat) (r:Rn) (f:Fr) (xs:List Vl) (R:Ss×Rn) (hr:aK k zr.2=some r) (hf:f.vals=.nA xs) (hF:lY K S r f xs=some R):
 av Tryz.prog 245 [.p (.bH rS k),.p (.agg (dX f))] (hA K S zr) (.cA []) (hA K R.1 (zr.1,aW k R.2 zr.2)):=by
 have hfail:=cJ zr S.o k cG r hr;obtain⟨f1,f2,f3,f4,f5⟩:=f;dsimp only at hf;subst hf;have he:=fun j=>jr zr k j ⟨f1,f2,.nA xs,f4,f5⟩ f2 r hr;unfold lY dA at hF;dsimp only at hF
 cases f1 with
 |none=>cases hF
 |some kn=>
  dsimp only at hF
  cases hn:aK kn K.n.2 with
  |none=>rw[hn]at hF;cases hF
  |some n=>
   rw[hn]at hF
   cases xs with
   |nil=>cases hF
   |cons v xs=>
    obtain⟨vk,vn,vt,va,vc⟩:=v;dsimp only[Vl.kind,Vl.num]at hF;unfold hA iE CH iH xS dX at *;dsimp only[mJ]at *
    cases hk:vk==3 with
    |false=>
     rw[hk]at hF;cases hF;refine av.intro (ah Tryz.prog) aC Tryz.func245 rfl (by rfl) (by kernel_rfl) (by show 2≤_;decide) rfl ?_;(conv=>whnf);refine au (i:=0) (x:=.agg [.i .i64 vk,.i .i64 vn,.s vt,.sl 5 (bu va),eP cS vc]) (by rw[aR];simp[eV]) ?_;(conv=>whnf);refine aj ?_ ?_<;>intro h0<;>conv=>whnf
     ·refine bh [1000000000,1000000001] 300 hfail ?_
      (conv=>whnf);refine⟨.inl rfl,⟨s6,s6,s6,s6,s6,s6,s6,s6,s6,s6,s6,s6,s6,s6,s6,s6,trivial⟩⟩
     ·rw[show(vk==3)=true by simpa using h0]at hk;cases hk
    |true=>
     rw[hk]at hF;dsimp only at hF;generalize hJ:Dy vn=J at hF;unfold Dy at hJ
     cases ha:ja K.a n J with
     |none=>rw[ha]at hF;cases hF
     |some j=>
      rw[ha]at hF;cases hF;obtain⟨n1,n2,n3,n4,n5,n6,n7,n8,n9⟩:=n;unfold ja at ha;dsimp only at ha
      cases n5 with
      |none=>cases ha
      |some q=>
       obtain⟨q1,q2⟩:=q;dsimp only at ha
       cases hb:Nat.blt J q2 with
       |false=>rw[hb]at ha;cases ha
       |true=>
        rw[hb]at ha;dsimp only at ha
        cases hl:aK q1 K.a.2 with
        |none=>rw[hl]at ha;cases ha
        |some l=>
         rw[hl]at ha;dsimp only at ha;have hb1:J<q2:=by rw[Nat.blt_eq]at hb;exact hb
         have he:=he j;cases f2
         all_goals
          refine av.intro (ah Tryz.prog) aC Tryz.func245 rfl (by rfl) (by kernel_rfl) (by show 2≤_;decide) rfl ?_;(conv=>whnf);refine au (i:=0) (x:=.agg [.i .i64 vk,.i .i64 vn,.s vt,.sl 5 (bu va),eP cS vc]) (by rw[aR];simp[eV]) ?_;(conv=>whnf);refine bD (by simpa using hk) ?_;(conv=>whnf);refine aj ?_ ?_<;>intro h1<;>conv=>whnf
          ·rw[show(vn==0)=false by simpa using h1]at hJ
           subst hJ;refine bC dc hn rfl ?_;(conv=>whnf);refine ag ⟨by decide,hb1⟩ ?_;(conv=>whnf);refine ag ⟨rfl,by decide,.inr rfl⟩ ?_;refine⟨_,aq hl,?_⟩;refine au (i:=1) (x:=.bH nS j) (by unfold ry;rw[List.getElem?_map,ha];rfl) ?_;(conv=>whnf);refine bh [1000000000] 300 he ?_;(conv=>whnf);refine ag (.inl (by kernel_rfl)) ?_;(conv=>whnf);refine⟨.inl rfl,⟨s6,s6,s6,s6,s6,s6,s6,s6,s6,s6,s6,s6,s6,s6,s6,s6,trivial⟩⟩
          ·rw[show(vn==0)=true by simpa using h1]at hJ
           subst hJ;refine bC dc hn rfl ?_;(conv=>whnf);refine ag ⟨by decide,hb1⟩ ?_;(conv=>whnf);refine ag ⟨rfl,by decide,.inr rfl⟩ ?_;refine⟨_,aq hl,?_⟩;refine au (i:=2) (x:=.bH nS j) (by unfold ry;rw[List.getElem?_map,ha];rfl) ?_;(conv=>whnf);refine bh [1000000000] 300 he ?_;(conv=>whnf);refine ag (.inl (by kernel_rfl)) ?_;(conv=>whnf);refine⟨.inl rfl,⟨s6,s6,s6,s6,s6,s6,s6,s6,s6,s6,s6,s6,s6,s6,s6,s6,trivial⟩⟩
end MN
end
section
open Go Go.AM Go.Proofs TK
set_option maxRecDepth 100000
namespace MN
def Gn:Ou:=zy 1 0
def tH (r:Rn):Bool:=match r.cur.n with
 |none=>true
 |some _=>match r.cur.vals with
  |.nil=>true
  |_=>false
def u9 (K:Ks):Nat→Ss→Rn→Option (Ou×Ss×Rn)
 |0,S,r=>some (Gn,S,r)
 |n+1,S,r=>match (r.mode==1)||(r.mode==3) with
  |true=>some (r.last,S,r)
  |false=>match r.mode==2 with
   |true=>some (Gn,S,r)
   |false=>match tH r with
   |false=>none
   |true=>match qU K S r with
    |none=>none
    |some (S2,r2)=>match r2.out with
     |none=>u9 K n S2 r2
     |some a=>match aK a S2.o.2 with
      |none=>none
      |some o=>some (o,S2,{ r2 with out:=none })
end MN
end
section
open Go Go.AM Go.Proofs TK
set_option maxRecDepth 100000
namespace MN
def cntF (t:ByteArray) (c:UInt8):Int:=Lib.countByte t.data.toList c
def wZ (K:Ks) (m:Nat) (v:Ov):Option (ByteArray×Bool):=match v with
 |.mk _ num t l=>match aK m K.mm.2 with
  |none=>none
  |some mk=>match decide (num<0)||decide (num≥(gA mk.funs:Int)) with
   |true=>some (⟨#[]⟩,false)
   |false=>match zD K mk num.toNat with
    |none=>none
    |some c=>match aK c K.n.2 with
     |none=>none
     |some nd=>match (t.size:Int)==(nd.free.length:Int) with
      |false=>some (⟨#[]⟩,false)
      |true=>some (t,(IntKind.i64.wrap (cntF t 49+cntF t 48)==(t.size:Int))&&(cntF t 49==(l.length:Int)))
mutual
def yw:Ov→Nat
 |.mk _ _ _ l=>rA l+1
def rA:List Ov→Nat
 | []=>0
 |v::r=>max (yw v) (rA r)
end
def AG (K:Ks) (m:Nat) (v:Ov):Option (Option ((Int×Int×ByteArray)×Nat)):=match v with
 |.mk k num t l=>match k==1 with
  |true=>some (some ((1,0,⟨#[]⟩),0))
  |false=>match (k==2)||(k==6) with
   |true=>some (some ((k,num,⟨#[]⟩),0))
   |false=>match k==3 with
    |true=>match !(num==0)&&!(num==1) with
     |true=>some none
     |false=>some (some ((3,num,⟨#[]⟩),0))
    |false=>match k==4 with
     |true=>match decide ((t.size:Int)>64) with
      |true=>some none
      |false=>some (some ((4,0,t),0))
     |false=>match k==5 with
      |true=>some (some ((5,0,t),6))
      |false=>match k==7 with
       |true=>match wZ K m (.mk 7 num t l) with
        |none=>none
        |some (_,false)=>some none
        |some (T,true)=>some (some ((7,num,T),l.length))
       |false=>match k==8 with
        |true=>some (some ((8,0,⟨#[]⟩),1))
        |false=>some none
def lR (f:Ov→bf Cl→Option (Option Vl×bf Cl)):List Ov→bf Cl→Option (Option (List Vl)×bf Cl)
 | [],z=>some (some [],z)
 |v::r,z=>match f v z with
  |none=>none
  |some (none,z2)=>some (none,z2)
  |some (some x,z2)=>match lR f r z2 with
   |none=>none
   |some (none,z3)=>some (none,z3)
   |some (some l,z3)=>some (some (x::l),z3)
def Gp (o:Int×Int×ByteArray) (k:Int) (xs:List Vl) (z:bf Cl):Vl×bf Cl:=match k==8 with
 |false=>(.mk o.1 o.2.1 o.2.2 xs none,z)
 |true=>match xs with
  | []=>(.mk o.1 o.2.1 o.2.2 [] (some z.1),(z.1+1,(z.1,⟨true,zV⟩)::z.2))
  |x::_=>(.mk o.1 o.2.1 o.2.2 [] (some z.1),(z.1+1,(z.1,⟨false,x⟩)::z.2))
def gQ (K:Ks) (m:Nat):Nat→Ov→bf Cl→Option (Option Vl×bf Cl)
 |0,_,_=>none
 |n+1,.mk k num t l,z=>match AG K m (.mk k num t l) with
  |none=>none
  |some none=>some (none,z)
  |some (some (o,most))=>match Nat.beq most 0 with
   |true=>some (some (.mk o.1 o.2.1 o.2.2 [] none),z)
   |false=>match decide ((l.length:Int)>(most:Int)) with
    |true=>some (none,z)
    |false=>match Nat.ble l.length 2000000 with
     |false=>none
     |true=>match lR (gQ K m n) l z with
      |none=>none
      |some (none,z2)=>some (none,z2)
      |some (some xs,z2)=>some (some (Gp o k xs z2).1,(Gp o k xs z2).2)
def lI (K:Ks) (S:Ss) (m:Nat) (name:ByteArray) (st:List Ov) (self:Int):Option (Ss×Except Int Rn):=match aK m K.mm.2 with
 |none=>none
 |some mk=>match aK mk.actors K.ma.2 with
  |none=>none
  |some es=>match bq name es with
   |none=>some (S,.error 4)
   |some fn=>match Nat.beq st.length fn.names.length with
    |false=>some (S,.error 1)
    |true=>match Nat.ble st.length 2000000 with
     |false=>none
     |true=>match lR (gQ K m (rA st)) st S.c with
      |none=>none
      |some (none,c2)=>some ({ S with c:=c2 },.error 3)
      |some (some l,c2)=>match Nat.ble l.length 2000000 with
       |false=>none
       |true=>match lP c2.2 l with
        |none=>none
        |some true=>some ({ S with c:=c2 },.error 2)
        |some false=>match lD fn.names l (S.s,none) with
         |none=>none
         |some Q=>some ({ S with c:=c2,s:=Q.1 },.ok (B8 ⟨m,fn.names,some fn.body,self,[],0,none,⟨none,none,.nil,0,false⟩,zV,⟨0,0,⟨#[]⟩,0,0,⟨#[]⟩,[],[]⟩,⟨none,none,.nil,0,false⟩,none⟩ l Q.2))
def pU (K:Ks) (S:Ss) (r:Rn) (v:Ov):Option (Bool×Ss×Rn):=match r.mode==1 with
 |false=>some (false,S,r)
 |true=>match gQ K r.maker (yw v) v S.c with
  |none=>none
  |some (none,c2)=>some (false,{ S with c:=c2 },r)
  |some (some x,c2)=>match oB K { S with c:=c2 } r r.pause x with
   |none=>none
   |some (false,S2,r2)=>some (false,S2,r2)
   |some (true,S2,r2)=>some (true,S2,{ r2 with mode:=0 })
def tG (K:Ks) (S:Ss) (r:Rn) (v:Ov):Option (Ss×Rn):=match r.mode==2 with
 |false=>some (S,r)
 |true=>match gQ K r.maker (yw v) v S.c with
  |none=>none
  |some (none,c2)=>some ({ S with c:=c2 },r)
  |some (some x,c2)=>some ({ S with c:=c2 },jS { r with mode:=0 } x)
def vF (K:Ks) (r:Rn):Option Rn:=match r.mode==1 with
 |false=>some r
 |true=>match decide (r.last.num<0) with
  |true=>some r
  |false=>match dA K r.pause with
   |none=>none
   |some n=>match ja K.a n 0 with
    |none=>none
    |some j=>some (jU { r with mode:=0 } j r.pause r.pause.sc)
structure mK where
 kind:Int
 val:Ov
def eK (K:Ks) (w:Int) (S:Ss) (r:Rn):List mK→Option (Bool×Ss×Rn×List mK)
 | []=>some (false,S,r,[])
 |s::l=>match s.kind==1 with
  |true=>match decide (w≥0) with
   |true=>match vF K r with
    |none=>none
    |some r2=>some (true,S,r2,l)
   |false=>eK K w S r l
  |false=>match pU K S r s.val with
   |none=>none
   |some (true,S2,r2)=>some (true,S2,r2,l)
   |some (false,S2,r2)=>eK K w S2 r2 l
def cR (fuels:List Int) (j:Nat):Int:=match fuels with
 | []=>400
 |a::b=>IntKind.i64.wrap (1+(((a::b)[j % (b.length+1)]?).getD 0) % 400)
def eW (K:Ks) (fuels:List Int):Nat→Nat→Ss→Rn→Int→Int→List mK→List Ou→Option (Option (List Ou)×Ss×Rn)
 |0,_,_,_,_,_,_,_=>none
 |n+1,j,S,r,refs,used,l,out=>match decide (used<60000) with
  |false=>some (none,S,r)
  |true=>match u9 K (cR fuels j).toNat S r with
   |none=>none
   |some (o,S2,r2)=>match o.kind==1 with
    |true=>eW K fuels n (j+1) S2 r2 refs (IntKind.i64.wrap (used+cR fuels j)) l out
    |false=>match (o.kind==8)||(o.kind==9) with
     |true=>some (some (out++[o]),S2,r2)
     |false=>match o.kind==4 with
      |true=>match tG K S2 r2 (.mk 6 (IntKind.i64.wrap (refs+1)) ⟨#[]⟩ []) with
       |none=>none
       |some (S3,r3)=>eW K fuels n (j+1) S3 r3 (IntKind.i64.wrap (refs+1)) (IntKind.i64.wrap (used+cR fuels j)) l (out++[o])
      |false=>match o.kind==7 with
       |false=>eW K fuels n (j+1) S2 r2 refs (IntKind.i64.wrap (used+cR fuels j)) l (out++[o])
       |true=>match eK K o.num S2 r2 l with
        |none=>none
        |some (false,S3,r3,_)=>some (some (out++[o]),S3,r3)
        |some (true,S3,r3,l3)=>eW K fuels n (j+1) S3 r3 refs (IntKind.i64.wrap (used+cR fuels j)) l3 (out++[o])
def gz (K:Ks) (S:Ss) (m:Nat) (name:ByteArray) (st:List Ov) (fuels:List Int) (l:List mK):Option (Option (List Ou)×Ss×Option Rn):=match lI K S m name st 7 with
 |none=>none
 |some (S1,.error _)=>some (none,S1,none)
 |some (S1,.ok r)=>match eW K fuels 60001 0 S1 r 1000 0 l [] with
  |none=>none
  |some (R,S2,r2)=>some (R,S2,some r2)
end MN
end
section
open Go Go.AM Go.Proofs
set_option maxRecDepth 100000
namespace TK
theorem aC:Tryz.prog.follows .mixedOrders=true:=by kernel_rfl
theorem GL {f:Nat} {args:List AV} {vs:List Value} {r:Value} {y:PV} (hb:lW Tryz.prog f) (hv:∀g w us,us.length=args.length→(∀(j:Nat) (v:Value) (x:AV),us[j]?=some v→args[j]?=some x→aH g w (fun _=>False) none v x)→us=vs)
 (hr:∀M,aZ M r y) (h:∀w,Calls Tryz.prog f vs.toArray w fun e w'=>e=.returned r∧w'=w):aV Tryz.prog f args (.p y):=by
 refine⟨hb,fun g w us hno hsw hl hrel=>?_⟩;obtain rfl:=hv g w us hl hrel;refine(h w).mono ?_;rintro e w' ⟨rfl,rfl⟩;exact⟨r,g,rfl,.p _ _ _ (hr _),Ext.refl g w'⟩
theorem Mi {a b:PV} {x y:Value} (h1:∀M v,aZ M v a→v=x) (h2:∀M v,aZ M v b→v=y):∀(g:Gh) (w:World) (us:List Value),us.length=[AV.p a,AV.p b].length→(∀(j:Nat) (v:Value) (z:AV),us[j]?=some v→[AV.p a,AV.p b][j]?=some z→aH g w (fun _=>False) none v z)→us=[x,y]:=by
 intro g w us hl hr
 match us,hl with
 | [u,v],_=>
   have q1:=(hr 0 u _ rfl rfl).pv;have q2:=(hr 1 v _ rfl rfl).pv;rw[h1 _ _ q1,h2 _ _ q2]
theorem Bl {f:Nat} {fn:Func} {c:Code} (hf:Tryz.prog.funcs[f]?=some fn) (hb:fn.body=some c) (hn:(fn.name== "runtime.NumGoroutine")=false):lW Tryz.prog f:=⟨fn,c,hf,hb,hn⟩
set_option maxHeartbeats 1000000 in
theorem DY (s:ByteArray) (c:Int) (w:World):
 Calls Tryz.prog 145 #[.string s,.int .u8 c] w fun e w'=>e=.returned (.int .i64 (Lib.indexByte s.data.toList c.toNat.toUInt8))∧w'=w:=by
 go_enter Tryz.func145,Tryz.ntmps145
 go_wp2
 rw[run_callFunc_extern Tryz.func173 (by kernel_rfl) (by kernel_rfl) (by kernel_rfl) (e:=Extern.BytealgIndexByte.indexByte) (by kernel_rfl),Lib.run_indexByteString];simp only[Result.andThen];rw[Oper.upon_value]
 go_wp2
 go_ret
 exact⟨rfl,rfl⟩
set_option maxHeartbeats 1000000 in
theorem Iu (s:ByteArray) (c:UInt8) (w:World):
 Calls Tryz.prog 52 #[.string s,.string ⟨#[c]⟩] w fun e w'=>e=.returned (.int .i64 (Lib.countByte s.data.toList c))∧w'=w:=by
 go_enter Tryz.func52,Tryz.ntmps52
 go_wp2
 rw[run_callFunc_extern Tryz.func79 (by kernel_rfl) (by kernel_rfl) (by kernel_rfl) (e:=Extern.BytealgCount.count) (by kernel_rfl),Lib.run_countString];simp only[Result.andThen];rw[Oper.upon_value]
 go_wp2
 go_ret
 exact⟨rfl,rfl⟩
theorem FG (l:Bs) (c:UInt8):aV Tryz.prog 145 [.p (.s (B l)),.p (.i .u8 c.toNat)] (.p (.i .i64 (Lib.indexByte l c))):=by
 refine GL (vs:=[.string (B l),.int .u8 c.toNat]) (r:=.int .i64 (Lib.indexByte l c)) (Bl Tryz.func145 rfl (by rfl)) (Mi (fun M v h=>by cases h;rfl) (fun M v h=>by cases h;rfl)) (fun M=>.i _ _) (fun w=>?_);have:=DY (B l) c.toNat w;rw[JJ]at this;simpa using this
theorem rW (l:Bs) (c:UInt8):aV Tryz.prog 52 [.p (.s (B l)),.p (.s (B [c]))] (.p (.i .i64 (Lib.countByte l c))):=by
 refine GL (vs:=[.string (B l),.string (B [c])]) (r:=.int .i64 (Lib.countByte l c)) (Bl Tryz.func52 rfl (by rfl)) (Mi (fun M v h=>by cases h;rfl) (fun M v h=>by cases h;rfl)) (fun M=>.i _ _) (fun w=>?_);have:=Iu (B l) c w;rw[JJ]at this;exact this
theorem Ee (l:Bs) (c:UInt8):aV Tryz.prog 119 [.p (.s (B l)),.p (.s (B [c]))] (.p (.i .i64 (Lib.indexByte l c))):=by
 have h:=FG l c
 by_cases hl:l=[c]
 ·subst hl
  rw[show Lib.indexByte [c] c=0 by simp[Lib.indexByte]];refine aV.intro (ah Tryz.prog) aC Tryz.func119 rfl (by rfl) (by kernel_rfl) (by show 2≤_;decide) rfl ?_;(conv=>whnf);refine dw (show((B [c]).toList==(B [c]).toList)=true by rw[s8];simp) ?_;(conv=>whnf);exact .inl rfl
 ·generalize Lib.indexByte l c=q at h
  refine aV.intro (ah Tryz.prog) aC Tryz.func119 rfl (by rfl) (by kernel_rfl) (by show 2≤_;decide) rfl ?_;(conv=>whnf);refine bD (show((B [c]).toList==(B l).toList)=false by rw[s8];simp only[beq_eq_false_iff_ne];exact fun h=>hl h.symm) ?_;(conv=>whnf);refine Oz (l:=[c]) (k:=0) (c:=c) rfl rfl ?_;(conv=>whnf);refine jA h ?_;(conv=>whnf);exact .inl rfl
theorem index_spec (l:Bs) (c:UInt8):aV Tryz.prog 80 [.p (.s (B l)),.p (.s (B [c]))] (.p (.i .i64 (Lib.indexByte l c))):=by
 have h:=Ee l c;generalize Lib.indexByte l c=q at h;refine aV.intro (ah Tryz.prog) aC Tryz.func80 rfl (by rfl) (by kernel_rfl) (by show 2≤_;decide) rfl ?_;(conv=>whnf);refine jA h ?_;(conv=>whnf);exact .inl rfl
theorem zh (l:Bs) (c:UInt8):aV Tryz.prog 125 [.p (.s (B l)),.p (.s (B [c]))] (.p (.b (decide (Lib.indexByte l c≥0)))):=by
 have h:=index_spec l c;generalize Lib.indexByte l c=q at h;refine aV.intro (ah Tryz.prog) aC Tryz.func125 rfl (by rfl) (by kernel_rfl) (by show 2≤_;decide) rfl ?_;(conv=>whnf);refine jA h ?_;(conv=>whnf);exact .inl rfl
end TK
end
