/- Contracts, and the law, for every input. No conditions. -/
import Derived.Test.YtdmopjgjhfhfdaaGreatDoorAMRngD
import Derived.Test.YtdmopjgjhfhfdaaGreatDoorTR1
import Derived.Test.YtdmopjgjhfhfdaaGreatDoorChecked
import Derived.Test.YtdmopjgjhfhfdaaGreatDoorMN5
import Derived.Lib.Strings
import Derived.Lib.Slices
import Derived.Lib.Walk
import Derived.Lib.Bytealg
set_option linter.all false
section
open Go Go.AM Go.Proofs TK
set_option maxRecDepth 100000
namespace MN
structure Ar where
 pat:TR.Pt
 body:Nat
def P8 (a:Ar):PV:=.agg ((TR.eP a.pat).cells++[.bG nS a.body])
def EX (l:List Ar):List PV:=l.map P8
def KK (z:bf (List Ar)):bq:=.store 169 false bS z.1 5 (cy EX z.2)
def oB (z:bf (List Vl)):bq:=.store 139 false vS z.1 5 (cy br z.2)
def vL (l:List Fr):List PV:=l.map fun f=>.agg (dU f)
def Ji (z:bf (List Fr)):bq:=.store 136 false fS z.1 5 (cy vL z.2)
structure Fn where
 names:List ByteArray
 body:Nat
structure Cn where
 data:ByteArray
 args:Int
structure Im where
 trait:ByteArray
 typ:ByteArray
 funcs:Nat
structure Mk where
 funs:Option (Nat×Nat)
 makes:Nat
 funcs:Nat
 traits:Nat
 impls:Option (Nat×Nat)
 actors:Nat
abbrev cM:Nat:=21
abbrev fM:Nat:=22
abbrev tM:Nat:=23
abbrev aM:Nat:=24
abbrev iS:Nat:=25
def iU (m:Mk):List PV:=[.agg [OQ aS m.funs,.amp cM m.makes,.amp fM m.funcs,.amp tM m.traits,OQ iS m.impls,.amp aM m.actors]]
def sj (z:bf Mk):bq:=.store 84 true mS z.1 6 (cy iU z.2)
def eFn (f:Fn):PV:=.agg [.sl 1 (f.names.map .s),.bG nS f.body]
def ze (c:Cn):PV:=.agg [.s c.data,.i .i64 c.args]
def PW (x:Im):PV:=.agg [.s x.trait,.s x.typ,.amp fM x.funcs]
def BC (l:List Im):List PV:=l.map PW
def MD (z:bf (List Im)):bq:=.store 108 false iS z.1 3 (cy BC z.2)
abbrev TM (α:Type):=List (ByteArray×α)
def jw {α:Type} (enc:α→PV) (es:TM α):List (PV×PV):=es.map fun e=>(.s e.1,enc e.2)
def bX {α:Type} (enc:α→PV) (es:TM α):List PV:=(jw enc es).map HX
def Mb (z:bf (TM Cn)):bq:=.store 77 true cM z.1 0 (cy (bX ze) z.2)
def KH (z:bf (TM Fn)):bq:=.store 78 true fM z.1 0 (cy (bX eFn) z.2)
def K8 (z:bf (TM ByteArray)):bq:=.store 79 true tM z.1 0 (cy (bX .s) z.2)
def Gy (z:bf (TM Fn)):bq:=.store 80 true aM z.1 0 (cy (bX eFn) z.2)
def bh {α:Type} (k:ByteArray):TM α→Option α
 | []=>none
 |(a,v)::r=>match k==a with|true=>some v|false=>bh k r
theorem bP {α:Type} (enc:α→PV) (k:ByteArray) (d:PV):∀es:TM α,pH (.s k) d (jw enc es)=(((bh k es).map enc).getD d,(bh k es).isSome):=by
 intro es;unfold pH
 have:jS (.s k) (jw enc es)=(bh k es).map enc:=by
  induction es with
  |nil=>rfl
  |cons e r ih=>
   obtain⟨a,v⟩:=e;show(match sQ (.s k) (.s a) with|true=>some (enc v)|false=>jS (.s k) (jw enc r))=_;rw[bh,ih];have:sQ (.s k) (.s a)=(k==a):=rfl;rw[this];cases k==a<;>rfl
 rw[this]
 cases bh k es<;>rfl
structure Ks where
 n:bf Nd
 a:bf (List Nat)
 b:bf (List Ar)
 mm:bf Mk
 mc:bf (TM Cn)
 mf:bf (TM Fn)
 mt:bf (TM ByteArray)
 im:bf (List Im)
 ma:bf (TM Fn)
structure Ss where
 o:bf Ou
 s:bf Sc
 v:bf (List Vl)
 f:bf (List Fr)
 c:bf Cl
 g:bf (List Nat)
def hA (K:Ks) (S:Ss) (zr:bf Rn):Heap:=
 [(1000000000,iz zr),(1000000001,Ck S.o),(1000000002,iE K.n),(1000000003,yX K.a),(1000000004,KK K.b),(1000000005,zh sS S.s),(1000000006,oB S.v),(1000000007,Ji S.f),(1000000008,kJ S.c),
  (1000000009,sj K.mm),(1000000010,Mb K.mc),(1000000011,KH K.mf),(1000000012,K8 K.mt),(1000000013,MD K.im),(1000000014,Gy K.ma),(1000000015,Is S.g)]
def BX (K:Ks) (S:Ss) (zr:bf Rn):List bq:=[iz zr,Ck S.o,iE K.n,yX K.a,KK K.b,zh sS S.s,oB S.v,Ji S.f,kJ S.c,sj K.mm,Mb K.mc,KH K.mf,K8 K.mt,MD K.im,Gy K.ma,Is S.g]
abbrev iA:List Nat:=[1000000000,1000000001,1000000002,1000000003,1000000004,1000000005,1000000006,1000000007,1000000008,1000000009,1000000010,1000000011,1000000012,1000000013,1000000014,1000000015]
abbrev iB:List Nat:=[1000000000,1000000001,1000000002,1000000003,1000000004,1000000005,1000000006,1000000007,1000000008]
abbrev iD:List Nat:=[1000000001,1000000002,1000000003,1000000004,1000000005,1000000006,1000000007,1000000008,1000000009,1000000010,1000000011,1000000012,1000000013,1000000014,1000000015,1000000016]
theorem IL {P:Program} {f:Nat} {args args2:List AV} {H H':Heap} {r:AV} (h:av P f args2 H r H') (hlen:args.length=args2.length)
 (hargs:∀(j:Nat) (a b:AV),args[j]?=some a→args2[j]?=some b→(a=b)∨∃p q,a=.p p∧b=.p q∧∀M v,aY M v p→aY M v q):av P f args H r H':=by
 obtain⟨hb,hc⟩:=h;refine⟨hb,fun g w vs hH hbn hvl hrel=>hc g w vs hH hbn (hvl.trans hlen) (fun j v b q1 q2=>?_)⟩;have hj:j<args.length:=by rw[hlen];exact(List.getElem?_eq_some_iff.1 q2).1
 have hr:=hrel j v args[j] q1 (List.getElem?_eq_getElem hj);rcases hargs j args[j] b (List.getElem?_eq_getElem hj) q2 with e|⟨p,q,e1,e2,hpq⟩
 ·rw[←e];exact hr
 ·rw[e1]at hr;subst e2
  exact .p _ _ _ (hpq _ _ hr.pv)
theorem Gp {α:Type} (enc:α→List PV) (a nx:Nat) (z:List (Nat×α)) (T:Nat) (one:Bool) (sp sz:Nat):bq.store T one sp nx sz (cy enc (hU a z))=.store T one sp nx sz (mC a (cy enc z)):=by rw[tU]
theorem Pk {fn:Nat} {K:Ks} {S:Ss} {zr:bf Rn} {H':Heap} {r:AV} {k kk n:Nat} {f:Fr} {xs:List Vl} (hgl:fJ (hA K S zr) H'=true) (hk:aJ kk S.v.2=some xs) (hn:n≤xs.length)
 (h:av Tryz.prog fn [.p (.bG rS k),.p (.agg (dU { f with vals:=.mZ (xs.take n) }))] (hA K { S with v:=(S.v.1,hU kk S.v.2) } zr) r H'):
 av Tryz.prog fn [.p (.bG rS k),.p (.agg (dU { f with vals:=.blk kk n }))] (hA K S zr) r H':=by
 have hlen:(br xs).length=xs.length:=by rw[aQ];simp
 refine av.freeze (l:=1000000006) (T:=139) (one:=false) (sp:=vS) (nx:=S.v.1) (sz:=5) (k:=kk) (n:=n) (M:=cy br S.v.2) (xs:=br xs) h hgl rfl ?_ (aq hk) (by rw[hlen];exact hn) (by decide) rfl ?_
 ·intro x
  unfold hA oB;rw[Gp]
  cases hb:Nat.beq 1000000006 x with
  |true=>
   have hx:=(Nat.eq_of_beq_eq_true hb).symm;subst hx;rfl
  |false=>simp only[aF,hb]
 ·intro j a b h1 h2
  rcases j with _|_|j
  ·cases h1;cases h2;exact .inl ⟨rfl,fun _ _ q=>by cases q⟩
  ·cases h1;cases h2
   refine .inr ⟨_,_,rfl,rfl,.agg _ _ rfl ?_⟩;intro j a b g1 g2;rcases j with _|_|_|j
   ·cases g1;cases g2;exact .refl _
   ·cases g1;cases g2;exact .refl _
   ·cases g1;cases g2
    show LA _ _ _ _ _ (.jV vS kk n) (.sl 5 (br (xs.take n)));rw[show br (xs.take n)=(br xs).take n by rw[aQ,aQ,List.map_take]];exact .jV
   ·have e:a=b:=by
     rcases j with _|_|j
     ·cases g1;cases g2;rfl
     ·cases g1;cases g2;rfl
     ·cases g1
    rw[e];exact .refl _
  ·cases h1
theorem Pr {fn:Nat} {H H':Heap} {r:AV} {k:Nat} {f:Fr} (h:av Tryz.prog fn [.p (.bG rS k),.p (.agg (dU { f with vals:=.mZ [] }))] H r H'):
 av Tryz.prog fn [.p (.bG rS k),.p (.agg (dU { f with vals:=.nil }))] H r H':=by
 refine IL h rfl ?_;intro j a b h1 h2;rcases j with _|_|j
 ·cases h1;cases h2;exact .inl rfl
 ·cases h1;cases h2
  refine .inr ⟨_,_,rfl,rfl,fun M v hr=>?_⟩
  cases hr with
  |agg vs _ hl2 h1 hx=>
   refine .agg vs _ hl2 h1 (fun j v x q1 q2=>?_);rcases j with _|_|_|j
   ·exact hx _ _ _ q1 q2
   ·exact hx _ _ _ q1 q2
   ·cases q2
    have:=hx 2 v .qZ q1 rfl
    cases this;exact .nil 5
   ·exact hx (j+3) v x q1 q2
 ·cases h1
end MN
end
section
open Go Go.AM Go.Proofs TK
set_option maxRecDepth 100000
namespace MN
def zX:ByteArray:=⟨#[110,97,109,101]⟩
def Kc:ByteArray:=⟨#[109,97,116,99,104]⟩
def F7:ByteArray:=⟨#[100,101,101,112]⟩
def jU (a b:ByteArray):Bool:=a.toList==b.toList
def dM (S:Ss) (r:Rn) (why:ByteArray):Ss×Rn:=({ S with o:=(S.o.1+1,(S.o.1,Dn why)::S.o.2) },sy r (Dn why) S.o.1)
def nc (S:Ss) (r:Rn) (o:Ou):Ss×Rn:=({ S with o:=(S.o.1+1,(S.o.1,o)::S.o.2) },xl r S.o.1)
def jF (r:Rn) (v:Vl):Rn:={ r with cur:={ r.cur with n:=none },val:=v }
def dy (K:Ks) (f:Fr):Option Nd:=match f.n with|none=>none|some k=>aJ k K.n.2
def bJ (S:Ss):FV→Option (List Vl)
 |.nil=>some []
 |.mZ xs=>some xs
 |.blk k n=>match aJ k S.v.2 with
  |none=>none
  |some xs=>match Nat.ble n xs.length&&Nat.ble n 2000000 with|true=>some (xs.take n)|false=>none
def dQ (S:Ss):FV→Ss
 |.blk k _=>{ S with v:=(S.v.1,hU k S.v.2) }
 |_=>S
def CQ (n:Int):Nat:=match n==0 with|true=>2|false=>1
def lJ (K:Ks) (S:Ss) (r:Rn) (f:Fr) (xs:List Vl):Option (Ss×Rn):=match dy K f with
 |none=>none
 |some n=>match xs with
  | []=>none
  |v::_=>match v.kind==3 with
   |false=>some (dM S r cD)
   |true=>match ju K.a n (CQ v.num) with
    |none=>none
    |some j=>some (S,jD r j f f.sc)
def My:TR.Pt→Int
 |.mk _ n _ _=>n
def oD (g:TR.Pt→Vl→bf Sc×Option Nat→Option (Bool×(bf Sc×Option Nat))):List TR.Pt→List Vl→bf Sc×Option Nat→Option (Bool×(bf Sc×Option Nat))
 | [],_,z=>some (true,z)
 |_::_,[],_=>none
 |x::r,v::s,z=>match g x v z with
  |none=>none
  |some (false,z2)=>some (false,z2)
  |some (true,z2)=>oD g r s z2
def mq:Nat→TR.Pt→Vl→bf Sc×Option Nat→Option (Bool×(bf Sc×Option Nat))
 |0,_,_,_=>none
 |n+1,p,v,z=>match p.kind==1 with
  |true=>some (true,z)
  |false=>match p.kind==2 with
   |true=>some (true,((z.1.1+1,(z.1.1,⟨p.text,v,z.2⟩)::z.1.2),some z.1.1))
   |false=>match p.kind==3 with
    |true=>some ((v.kind==2)&&(v.num==My p),z)
    |false=>match p.kind==4 with
     |true=>some ((v.kind==3)&&(v.num==My p),z)
     |false=>match p.kind==5 with
      |true=>some ((v.kind==4)&&jU v.text p.text,z)
      |false=>match p.kind==6 with
       |false=>some (false,z)
       |true=>match !(v.kind==5)||!(jU v.text p.text)||!(Nat.beq v.args.length p.args.length) with
        |true=>some (false,z)
        |false=>match Nat.ble p.args.length 2000000 with
         |false=>none
         |true=>oD (mq n) p.args v.args z
def wQ (K:Ks) (n:Nd):Option (List Ar):=match n.dR with
 |none=>some []
 |some q=>match aJ q.1 K.b.2 with
  |none=>none
  |some l=>match Nat.ble q.2 l.length&&Nat.ble q.2 2000000 with|true=>some (l.take q.2)|false=>none
def lU (f:Fr) (v:Vl):List Ar→Ss→Rn→Option (Bool×Ss×Rn)
 | [],S,r=>some (false,S,r)
 |a::l,S,r=>match mq (TR.wP a.pat) a.pat v (S.s,f.sc) with
  |none=>none
  |some (true,z)=>some (true,{ S with s:=z.1 },jD r a.body f z.2)
  |some (false,z)=>lU f v l { S with s:=z.1 } r
def oh (K:Ks) (S:Ss) (r:Rn) (f:Fr) (v:Vl):Option (Bool×Ss×Rn):=match dy K f with
 |none=>none
 |some n=>match wQ K n with
  |none=>none
  |some l=>lU f v l S r
def kj (K:Ks) (S:Ss) (r:Rn) (f:Fr) (xs:List Vl):Option (Ss×Rn):=match xs with
 | []=>none
 |v::_=>match oh K S r f v with
  |none=>none
  |some (true,S2,r2)=>some (S2,r2)
  |some (false,S2,r2)=>some (dM S2 r2 Kc)
def Dq (K:Ks) (m:Mk) (v:Vl):Option (Option ByteArray):=match v.kind==5 with
 |true=>match aJ m.makes K.mc.2 with
  |none=>none
  |some es=>match bh v.text es with
   |none=>some none
   |some c=>some (some c.data)
 |false=>match jU (oN v.kind) ⟨#[]⟩ with
  |true=>some none
  |false=>some (some (oN v.kind))
def qR (K:Ks) (trait typ name:ByteArray):List Im→Option (Option Fn)
 | []=>some none
 |x::r=>match jU x.trait trait&&jU x.typ typ with
  |true=>match aJ x.funcs K.mf.2 with
   |none=>none
   |some es=>some (bh name es)
  |false=>qR K trait typ name r
def ux (K:Ks) (m:Mk):Option (List Im):=match m.impls with
 |none=>some []
 |some q=>match aJ q.1 K.im.2 with
  |none=>none
  |some l=>match Nat.ble q.2 l.length&&Nat.ble q.2 2000000 with|true=>some (l.take q.2)|false=>none
def xU (K:Ks) (m:Mk) (name:ByteArray) (xs:List Vl):Option (Option Fn):=match aJ m.funcs K.mf.2 with
 |none=>none
 |some es=>match bh name es with
  |some f=>some (some f)
  |none=>match aJ m.traits K.mt.2 with
   |none=>none
   |some ts=>match bh name ts with
    |none=>some none
    |some trait=>match xs with
     | []=>some none
     |v::_=>match Dq K m v with
      |none=>none
      |some none=>some none
      |some (some t)=>match ux K m with
       |none=>none
       |some l=>qR K trait t name l
def zx (K:Ks) (mk:Mk) (j:Nat):Option Nat:=match mk.funs with
 |none=>none
 |some q=>match Nat.blt j q.2 with
  |false=>none
  |true=>match aJ q.1 K.a.2 with
   |none=>none
   |some l=>l[j]?
def zw (t:ByteArray) (l:List Vl):List ByteArray→Nat→Nat→bf Sc×Option Nat→Option (bf Sc×Option Nat)
 | [],_,_,z=>some z
 |n::r,i,k,z=>match Nat.blt i t.size with
  |false=>none
  |true=>match (((t[i]?).getD 0).toNat:Int)==49 with
   |false=>zw t l r (i+1) k z
   |true=>match l[k]? with
    |none=>none
    |some v=>zw t l r (i+1) (k+1) ((z.1.1+1,(z.1.1,⟨n,v,z.2⟩)::z.1.2),some z.1.1)
def CB (S:Ss) (r:Rn) (f:Fr) (names:List ByteArray) (body:Nat) (sc:Option Nat) (xs:List Vl):Option (Ss×Rn):=match Nat.ble names.length 2000000 with
 |false=>none
 |true=>match Nat.beq xs.length names.length with
  |false=>some (dM S r cD)
  |true=>match decide (f.depth≥60) with
   |true=>some (dM S r F7)
   |false=>match lY names xs (S.s,sc) with
    |none=>none
    |some R=>some ({ S with s:=R.1 },{ r with cur:=⟨some body,R.2,.nil,IntKind.i64.wrap (f.depth+1),true⟩ })
def ug (K:Ks) (S:Ss) (r:Rn) (f:Fr) (xs:List Vl):Option (Ss×Rn):=match xs with
 | []=>none
 |v::vs=>match v.kind==7 with
  |false=>some (dM S r cD)
  |true=>match aJ r.maker K.mm.2 with
   |none=>none
   |some m=>match (v.num.toNat:Int)==v.num with
    |false=>none
    |true=>match zx K m v.num.toNat with
     |none=>none
     |some c=>match aJ c K.n.2 with
      |none=>none
      |some n=>match ju K.a n 0 with
       |none=>none
       |some b=>match Nat.ble n.free.length 2000000 with
        |false=>none
        |true=>match zw v.text v.args n.free 0 0 (S.s,none) with
         |none=>none
         |some Q=>CB { S with s:=Q.1 } r f n.names b Q.2 vs
def tS (K:Ks) (S:Ss) (r:Rn) (f:Fr) (xs:List Vl):Option (Ss×Rn):=match dy K f with
 |none=>none
 |some n=>match n.kind==9 with
  |false=>ug K S r f xs
  |true=>match aJ r.maker K.mm.2 with
   |none=>none
   |some m=>match xU K m n.text xs with
    |none=>none
    |some none=>some (dM S r zX)
    |some (some fn)=>match Nat.ble fn.names.length 2000000 with
     |false=>none
     |true=>match Nat.beq xs.length fn.names.length with
     |false=>some (dM S r cD)
     |true=>match decide (f.depth≥60) with
      |true=>some (dM S r F7)
      |false=>match lY fn.names xs (S.s,none) with
       |none=>none
       |some R=>some ({ S with s:=R.1 },{ r with cur:=⟨some fn.body,R.2,.nil,IntKind.i64.wrap (f.depth+1),true⟩ })
def mh (S:Ss) (r:Rn) (f:Fr) (xs:List Vl):Option (Ss×Rn):=match Nat.ble xs.length 2000000&&Nat.ble r.names.length 2000000 with
 |false=>none
 |true=>match f.inFun||!(Nat.beq xs.length r.names.length) with
  |true=>some (dM S r cD)
  |false=>match me S.c.2 xs with
   |none=>none
   |some true=>some (dM S r kQ)
   |some false=>match lY r.names xs (S.s,none) with
    |none=>none
    |some R=>some ({ S with s:=R.1 },BM r xs R.2)
def zq (k n:Int):Ou:=⟨k,n,⟨#[]⟩,0,0,⟨#[]⟩,[],[]⟩
def MX (R:Ss×Rn):Ss×Rn:=(R.1,{ R.2 with mode:=2 })
def uI (K:Ks) (S:Ss) (r:Rn) (n:Nd) (xs:List Vl):Option (Ss×Rn):=match aJ r.maker K.mm.2 with
 |none=>none
 |some m=>match aJ m.actors K.ma.2 with
  |none=>none
  |some es=>match bh n.text es with
   |none=>some (dM S r zX)
   |some a=>match Nat.beq a.names.length xs.length with
    |false=>some (dM S r cD)
    |true=>match nP S.c S.g xs with
     |none=>none
     |some Q=>match jU Q.1.2 ⟨#[]⟩ with
      |false=>some (dM { S with c:=Q.2.1,g:=Q.2.2 } r Q.1.2)
      |true=>some (MX (nc { S with c:=Q.2.1,g:=Q.2.2 } r ⟨4,0,n.text,0,0,⟨#[]⟩,[],Q.1.1⟩))
def Af (S:Ss) (r:Rn) (v:Vl) (vs:List Vl):Option (Ss×Rn):=match nP S.c S.g vs with
 |none=>none
 |some Q=>match jU Q.1.2 ⟨#[]⟩ with
  |false=>some (dM { S with c:=Q.2.1,g:=Q.2.2 } r Q.1.2)
  |true=>match Q.1.1 with
   | []=>none
   |.mk ok on ot oa::_=>some (nc { S with c:=Q.2.1,g:=Q.2.2 } r ⟨3,v.num,⟨#[]⟩,ok,on,ot,oa,[]⟩)
def iY (S:Ss) (r:Rn) (v:Vl) (k:Int) (R:Option (Ss×Rn)):Option (Ss×Rn):=match v.kind==k with
 |false=>some (dM S r cD)
 |true=>R
def pM (K:Ks) (S:Ss) (r:Rn) (f:Fr) (xs:List Vl):Option (Ss×Rn):=match dy K f with
 |none=>none
 |some n=>match n.kind==14 with
  |true=>uI K S r n xs
  |false=>match xs with
   | []=>none
   |v::vs=>match n.kind==20 with
    |true=>iY S r v 2 (some (nc S r (zq 2 v.num)))
    |false=>match n.kind==24 with
     |true=>iY S r v 6 (some (nc S r (zq 5 v.num)))
     |false=>match n.kind==25 with
      |true=>iY S r v 6 (some (nc S r (zq 6 v.num)))
      |false=>match n.kind==19 with
       |true=>iY S r v 4 (some (dM S r v.text))
       |false=>match n.kind==15 with
        |true=>iY S r v 6 (Af S r v vs)
        |false=>none
def l9 (op:ByteArray):Bool:=cN op 43||cN op 45||cN op 42||cN op 47||cN op 37||cN op 60
def H8:ByteArray:=⟨#[110,111,116]⟩
def D4:ByteArray:=⟨#[94]⟩
def dY (op:ByteArray) (xs:List Vl):Option (Vl×ByteArray):=match l9 op with
 |true=>match xs with
  | [a,b]=>match (a.kind==2)&&(b.kind==2) with
    |false=>some (zV,cD)
    |true=>match cN op 60 with
     |true=>some (vI 3 (bI (decide (a.num<b.num))),⟨#[]⟩)
     |false=>some (nH op a.num b.num)
  |_=>some (zV,cD)
 |false=>match cN op 61 with
  |true=>match xs with
   | [a,b]=>match qV (kL a) a b with
     |none=>none
     |some R=>some (vI 3 (bI R.1),R.2)
   |_=>some (zV,cD)
  |false=>match op.toList==D4.toList with
   |true=>match xs with
    | [a,b]=>match (a.kind==4)&&(b.kind==4) with
      |false=>some (zV,cD)
      |true=>match Nat.ble (a.text.size+b.text.size) 9223372036854775807 with
       |false=>none
       |true=>match decide (((a.text++b.text).size:Int)>64) with
        |true=>some (zV,kQ)
        |false=>some (.mk 4 0 (a.text++b.text) [] none,⟨#[]⟩)
    |_=>some (zV,cD)
   |false=>match op.toList==H8.toList with
    |false=>some (zV,cD)
    |true=>match xs with
     | [a]=>match a.kind==3 with
       |false=>some (zV,cD)
       |true=>some (vI 3 (bI (a.num==0)),⟨#[]⟩)
     |_=>some (zV,cD)
def tB (S:Ss) (r:Rn) (f:Fr):Option (Ss×Rn):=match r.stack with
 |none=>some ({ S with f:=(S.f.1+1,(S.f.1,[f])::S.f.2) },{ r with stack:=some (S.f.1,1) })
 |some q=>match aJ q.1 S.f.2 with
  |none=>none
  |some l=>match Nat.ble q.2 l.length&&Nat.ble q.2 2000000 with
   |false=>none
   |true=>some ({ S with f:=(S.f.1+1,(S.f.1,l.take q.2++[f])::hU q.1 S.f.2) },{ r with stack:=some (S.f.1,q.2+1) })
def fU (K:Ks) (S:Ss) (r:Rn) (f:Fr) (n:Nd) (j:Nat):Option (Ss×Rn):=match tB S r f with
 |none=>none
 |some (S2,r2)=>match ju K.a n j with
  |none=>none
  |some c=>some (S2,jD r2 c f f.sc)
def ja (K:Ks) (S:Ss) (r:Rn) (f:Fr):Option (Ss×Rn):=match dy K f with
 |none=>none
 |some n=>match bJ S f.vals with
  |none=>none
  |some xs=>match gE n with
   |false=>match dY n.text xs with
    |none=>none
    |some R=>match jU R.2 ⟨#[]⟩ with
     |false=>some (dM (dQ S f.vals) r R.2)
     |true=>some (dQ S f.vals,jF r R.1)
   |true=>match xs with
    | [v]=>match v.kind==3 with
      |false=>some (dM S r cD)
      |true=>match !((!(v.num==0))==jU n.text Fy) with
       |true=>some (S,jF r v)
       |false=>fU K S r f n 1
    | [_,v]=>match v.kind==3 with
      |false=>some (dM S r cD)
      |true=>some (S,jF r v)
    |_=>none
def mo (K:Ks) (S:Ss) (r:Rn) (f:Fr) (xs:List Vl):Option ((Vl×ByteArray)×Ss):=match dy K f with
 |none=>none
 |some n=>match n.kind==1 with
  |true=>some ((vI 1 0,⟨#[]⟩),S)
  |false=>match n.kind==2 with
   |true=>some ((vI 2 n.num,⟨#[]⟩),S)
   |false=>match n.kind==3 with
    |true=>some ((vI 3 (bI (!(n.num==0))),⟨#[]⟩),S)
    |false=>match n.kind==4 with
     |true=>some ((.mk 4 0 n.text [] none,⟨#[]⟩),S)
     |false=>match n.kind==16 with
      |true=>some ((vI 6 r.self,⟨#[]⟩),S)
      |false=>match n.kind==5 with
       |true=>match findF S.s.2 n.text (S.s.1+1) f.sc with
        |none=>none
        |some none=>some ((zV,zX),S)
        |some (some v)=>some ((v,⟨#[]⟩),S)
       |false=>match n.kind==12 with
        |true=>match aJ r.maker K.mm.2 with
         |none=>none
         |some m=>match aJ m.makes K.mc.2 with
          |none=>none
          |some es=>match bh n.text es with
           |none=>some ((zV,zX),S)
           |some c=>match c.args==(xs.length:Int) with
            |false=>some ((zV,cD),S)
            |true=>match B7 S.c.2 (.mk 5 0 n.text xs none) with
             |none=>none
             |some R=>some (R,S)
        |false=>match n.kind==21 with
         |true=>match xs with
          | []=>none
          |v::_=>match B7 ((S.c.1,⟨false,v⟩)::S.c.2) (.mk 8 0 ⟨#[]⟩ [] (some S.c.1)) with
           |none=>none
           |some R=>some (R,{ S with c:=(S.c.1+1,(S.c.1,⟨false,v⟩)::S.c.2) })
         |false=>match n.kind==22 with
          |true=>match xs with
           | []=>none
           |v::_=>match FE S.c.2 v with
            |none=>none
            |some R=>some (R,S)
          |false=>match n.kind==23 with
           |true=>match xs with
            |v::x::_=>match EA S.c v x with
             |none=>none
             |some R=>some ((vI 1 0,R.1),{ S with c:=R.2 })
            |_=>none
           |false=>some ((zV,cD),S)
def qv (K:Ks) (S:Ss) (r:Rn) (f:Fr) (xs:List Vl):Option (Ss×Rn):=match mo K S r f xs with
 |none=>none
 |some (R,S2)=>match jU R.2 ⟨#[]⟩ with
  |false=>some (dM S2 r R.2)
  |true=>some (S2,jF r R.1)
def eB:FV→Nat
 |.nil=>0
 |.mZ xs=>xs.length
 |.blk _ n=>n
def AS (K:Ks) (S:Ss) (r:Rn) (f:Fr) (n:Nd) (xs:List Vl):Option (Ss×Rn):=match ju K.a n 1 with
 |none=>none
 |some j=>match xs with
  | []=>none
  |v::_=>some ({ S with s:=(S.s.1+1,(S.s.1,⟨n.text,v,f.sc⟩)::S.s.2) },jD r j f (some S.s.1))
def eD (K:Ks) (S:Ss) (r:Rn) (f:Fr) (n:Nd):Option (Ss×Rn):=match n.kind==6 with
 |true=>match bJ S f.vals with
  |none=>none
  |some xs=>AS K S r f n xs
 |false=>match n.kind==8 with
  |true=>ja K S r f
  |false=>match bJ S f.vals with
   |none=>none
   |some xs=>match n.kind==7 with
    |true=>lJ K (dQ S f.vals) r f xs
    |false=>match n.kind==13 with
     |true=>kj K (dQ S f.vals) r f xs
     |false=>match (n.kind==9)||(n.kind==11) with
      |true=>tS K (dQ S f.vals) r f xs
      |false=>match n.kind==17 with
       |true=>mh (dQ S f.vals) r f xs
       |false=>match (n.kind==15)||(n.kind==14)||(n.kind==20)||(n.kind==24)||(n.kind==25)||(n.kind==19) with
        |true=>pM K (dQ S f.vals) r f xs
        |false=>qv K (dQ S f.vals) r f xs
def vG (M:List (Nat×Sc)) (fu:Nat) (sc:Option Nat):List ByteArray→List Int×List Vl→Option (List Int×List Vl)
 | [],q=>some q
 |s::r,q=>match findF M s fu sc with
  |none=>none
  |some none=>vG M fu sc r (q.1++[48],q.2)
  |some (some v)=>vG M fu sc r (q.1++[49],q.2++[v])
def um (K:Ks) (S:Ss) (r:Rn) (f:Fr) (n:Nd):Option (Ss×Rn):=match Nat.ble n.free.length 2000000 with
 |false=>none
 |true=>match vG S.s.2 (S.s.1+1) f.sc n.free ([],[]) with
  |none=>none
  |some q=>match iL S.c.2 (.mk 7 n.fn (iP q.1) q.2 none) with
   |none=>none
   |some true=>some (dM S r kQ)
   |some false=>some (S,jF r (.mk 7 n.fn (iP q.1) q.2 none))
def xS:FV→Bool
 |.mZ _=>true
 |_=>false
def gQ (K:Ks) (S:Ss) (r:Rn) (f:Fr):Option (Ss×Rn):=match dy K f with
 |none=>none
 |some n=>match xS f.vals with
 |true=>none
 |false=>match decide ((eB f.vals:Int)<gG n) with
  |true=>fU K S r f n (eB f.vals)
  |false=>match decide ((gx n.args:Int)<n.needs) with
   |true=>some (dM S r cD)
   |false=>eD K S r f n
def uq (K:Ks) (S:Ss) (r:Rn) (f:Fr):Option (Ss×Rn):=match dy K f with
 |none=>none
 |some n=>match decide (n.needs<0) with
  |true=>some (dM S r cD)
  |false=>match decide ((gx n.args:Int)<n.needs) with
   |true=>gQ K S r f
   |false=>match n.kind==10 with
    |true=>um K S r f n
    |false=>match n.kind==18 with
     |true=>some ({ S with o:=(S.o.1+1,(S.o.1,qD n)::S.o.2) },Kw r f (qD n) S.o.1)
     |false=>gQ K S r f
def Az (S:Ss) (x:Vl):FV→Option (Ss×FV)
 |.nil=>some ({ S with v:=(S.v.1+1,(S.v.1,[x])::S.v.2) },.blk S.v.1 1)
 |.mZ _=>none
 |.blk k n=>match aJ k S.v.2 with
  |none=>none
  |some l=>match Nat.ble n l.length&&Nat.ble n 2000000 with
   |false=>none
   |true=>some ({ S with v:=(S.v.1+1,(S.v.1,l.take n++[x])::hU k S.v.2) },.blk S.v.1 (n+1))
def Ct:Ou:=⟨8,0,⟨#[]⟩,0,0,⟨#[]⟩,[],[]⟩
def sE (K:Ks) (S:Ss) (r:Rn):Option (Ss×Rn):=match r.cur.n with
 |some _=>uq K S r r.cur
 |none=>match r.stack with
  |none=>some ({ S with o:=(S.o.1+1,(S.o.1,Ct)::S.o.2) },sy r Ct S.o.1)
  |some (_,0)=>some ({ S with o:=(S.o.1+1,(S.o.1,Ct)::S.o.2) },sy r Ct S.o.1)
  |some (q,j+1)=>match aJ q S.f.2 with
   |none=>none
   |some l=>match l[j]? with
    |none=>none
    |some f=>match Nat.ble j 2000000 with
    |false=>none
    |true=>match Az S r.val f.vals with
     |none=>none
     |some (S2,w)=>gQ K S2 { r with stack:=some (q,j) } { f with vals:=w }
end MN
end
section
open Go Go.AM Go.Proofs TK
set_option maxRecDepth 100000
namespace MN
theorem choose_spec (K:Ks) (S:Ss) (zr:bf Rn) (k:Nat) (r:Rn) (f:Fr) (xs:List Vl) (R:Ss×Rn) (hr:aJ k zr.2=some r) (hf:f.vals=.mZ xs) (hF:lJ K S r f xs=some R):
 av Tryz.prog 245 [.p (.bG rS k),.p (.agg (dU f))] (hA K S zr) (.cz []) (hA K R.1 (zr.1,aV k R.2 zr.2)):=by
 have hfail:=cI zr S.o k cD r hr;obtain⟨f1,f2,f3,f4,f5⟩:=f;dsimp only at hf;subst hf;have he:=fun j=>jq zr k j ⟨f1,f2,.mZ xs,f4,f5⟩ f2 r hr;unfold lJ dy at hF;dsimp only at hF
 cases f1 with
 |none=>cases hF
 |some kn=>
  dsimp only at hF
  cases hn:aJ kn K.n.2 with
  |none=>rw[hn]at hF;cases hF
  |some n=>
   rw[hn]at hF
   cases xs with
   |nil=>cases hF
   |cons v xs=>
    obtain⟨vk,vn,vt,va,vc⟩:=v;dsimp only[Vl.kind,Vl.num]at hF;unfold hA iz Ck iE yX dU at *;dsimp only[mG]at *
    cases hk:vk==3 with
    |false=>
     rw[hk]at hF;cases hF;refine av.intro (ah Tryz.prog) az Tryz.func245 rfl (by rfl) (by kernel_rfl) (by show 2≤_;decide) rfl ?_;(conv=>whnf);refine au (i:=0) (x:=.agg [.i .i64 vk,.i .i64 vn,.s vt,.sl 5 (br va),eP cS vc]) (by rw[aQ];simp[eV]) ?_;(conv=>whnf);refine aj ?_ ?_<;>intro h0<;>conv=>whnf
     ·refine bg [1000000000,1000000001] 300 hfail ?_
      (conv=>whnf);refine⟨.inl rfl,⟨s6,s6,s6,s6,s6,s6,s6,s6,s6,s6,s6,s6,s6,s6,s6,s6,trivial⟩⟩
     ·rw[show(vk==3)=true by simpa using h0]at hk;cases hk
    |true=>
     rw[hk]at hF;dsimp only at hF;generalize hJ:CQ vn=J at hF;unfold CQ at hJ
     cases ha:ju K.a n J with
     |none=>rw[ha]at hF;cases hF
     |some j=>
      rw[ha]at hF;cases hF;obtain⟨n1,n2,n3,n4,n5,n6,n7,n8,n9⟩:=n;unfold ju at ha;dsimp only at ha
      cases n5 with
      |none=>cases ha
      |some q=>
       obtain⟨q1,q2⟩:=q;dsimp only at ha
       cases hb:Nat.blt J q2 with
       |false=>rw[hb]at ha;cases ha
       |true=>
        rw[hb]at ha;dsimp only at ha
        cases hl:aJ q1 K.a.2 with
        |none=>rw[hl]at ha;cases ha
        |some l=>
         rw[hl]at ha;dsimp only at ha;have hb1:J<q2:=by rw[Nat.blt_eq]at hb;exact hb
         have he:=he j;cases f2
         all_goals
          refine av.intro (ah Tryz.prog) az Tryz.func245 rfl (by rfl) (by kernel_rfl) (by show 2≤_;decide) rfl ?_;(conv=>whnf);refine au (i:=0) (x:=.agg [.i .i64 vk,.i .i64 vn,.s vt,.sl 5 (br va),eP cS vc]) (by rw[aQ];simp[eV]) ?_;(conv=>whnf);refine bC (by simpa using hk) ?_;(conv=>whnf);refine aj ?_ ?_<;>intro h1<;>conv=>whnf
          ·rw[show(vn==0)=false by simpa using h1]at hJ
           subst hJ;refine bB cY hn rfl ?_;(conv=>whnf);refine ag ⟨by decide,hb1⟩ ?_;(conv=>whnf);refine ag ⟨rfl,by decide,.inr rfl⟩ ?_;refine⟨_,aq hl,?_⟩;refine au (i:=1) (x:=.bG nS j) (by unfold qF;rw[List.getElem?_map,ha];rfl) ?_;(conv=>whnf);refine bg [1000000000] 300 he ?_;(conv=>whnf);refine ag (.inl (by kernel_rfl)) ?_;(conv=>whnf);refine⟨.inl rfl,⟨s6,s6,s6,s6,s6,s6,s6,s6,s6,s6,s6,s6,s6,s6,s6,s6,trivial⟩⟩
          ·rw[show(vn==0)=true by simpa using h1]at hJ
           subst hJ;refine bB cY hn rfl ?_;(conv=>whnf);refine ag ⟨by decide,hb1⟩ ?_;(conv=>whnf);refine ag ⟨rfl,by decide,.inr rfl⟩ ?_;refine⟨_,aq hl,?_⟩;refine au (i:=2) (x:=.bG nS j) (by unfold qF;rw[List.getElem?_map,ha];rfl) ?_;(conv=>whnf);refine bg [1000000000] 300 he ?_;(conv=>whnf);refine ag (.inl (by kernel_rfl)) ?_;(conv=>whnf);refine⟨.inl rfl,⟨s6,s6,s6,s6,s6,s6,s6,s6,s6,s6,s6,s6,s6,s6,s6,s6,trivial⟩⟩
end MN
end
section
open Go Go.AM Go.Proofs TK
set_option maxRecDepth 100000
namespace MN
def Jy:Ou:=zq 1 0
def ym (r:Rn):Bool:=match r.cur.n with
 |none=>true
 |some _=>match r.cur.vals with
  |.nil=>true
  |_=>false
def xD (K:Ks):Nat→Ss→Rn→Option (Ou×Ss×Rn)
 |0,S,r=>some (Jy,S,r)
 |n+1,S,r=>match (r.mode==1)||(r.mode==3) with
  |true=>some (r.last,S,r)
  |false=>match r.mode==2 with
   |true=>some (Jy,S,r)
   |false=>match ym r with
   |false=>none
   |true=>match sE K S r with
    |none=>none
    |some (S2,r2)=>match r2.out with
     |none=>xD K n S2 r2
     |some a=>match aJ a S2.o.2 with
      |none=>none
      |some o=>some (o,S2,{ r2 with out:=none })
end MN
end
section
open Go Go.AM Go.Proofs TK
set_option maxRecDepth 100000
namespace MN
def cntF (t:ByteArray) (c:UInt8):Int:=Lib.countByte t.data.toList c
def xG (K:Ks) (m:Nat) (v:Ov):Option (ByteArray×Bool):=match v with
 |.mk _ num t l=>match aJ m K.mm.2 with
  |none=>none
  |some mk=>match decide (num<0)||decide (num≥(gx mk.funs:Int)) with
   |true=>some (⟨#[]⟩,false)
   |false=>match zx K mk num.toNat with
    |none=>none
    |some c=>match aJ c K.n.2 with
     |none=>none
     |some nd=>match (t.size:Int)==(nd.free.length:Int) with
      |false=>some (⟨#[]⟩,false)
      |true=>some (t,(IntKind.i64.wrap (cntF t 49+cntF t 48)==(t.size:Int))&&(cntF t 49==(l.length:Int)))
mutual
def yV:Ov→Nat
 |.mk _ _ _ l=>qS l+1
def qS:List Ov→Nat
 | []=>0
 |v::r=>max (yV v) (qS r)
end
def AP (K:Ks) (m:Nat) (v:Ov):Option (Option ((Int×Int×ByteArray)×Nat)):=match v with
 |.mk k num t l=>match k==1 with
  |true=>some (some ((1,0,⟨#[]⟩),0))
  |false=>match (k==2)||(k==6) with
   |true=>some (some ((k,num,⟨#[]⟩),0))
   |false=>match k==3 with
    |true=>match !(num==0)&&!(num==1) with
     |true=>some none
     |false=>some (some ((3,num,⟨#[]⟩),0))
    |false=>match k==4 with
     |true=>match decide ((t.size:Int)>64) with
      |true=>some none
      |false=>some (some ((4,0,t),0))
     |false=>match k==5 with
      |true=>some (some ((5,0,t),6))
      |false=>match k==7 with
       |true=>match xG K m (.mk 7 num t l) with
        |none=>none
        |some (_,false)=>some none
        |some (T,true)=>some (some ((7,num,T),l.length))
       |false=>match k==8 with
        |true=>some (some ((8,0,⟨#[]⟩),1))
        |false=>some none
def mg (f:Ov→bf Cl→Option (Option Vl×bf Cl)):List Ov→bf Cl→Option (Option (List Vl)×bf Cl)
 | [],z=>some (some [],z)
 |v::r,z=>match f v z with
  |none=>none
  |some (none,z2)=>some (none,z2)
  |some (some x,z2)=>match mg f r z2 with
   |none=>none
   |some (none,z3)=>some (none,z3)
   |some (some l,z3)=>some (some (x::l),z3)
def FX (o:Int×Int×ByteArray) (k:Int) (xs:List Vl) (z:bf Cl):Vl×bf Cl:=match k==8 with
 |false=>(.mk o.1 o.2.1 o.2.2 xs none,z)
 |true=>match xs with
  | []=>(.mk o.1 o.2.1 o.2.2 [] (some z.1),(z.1+1,(z.1,⟨true,zV⟩)::z.2))
  |x::_=>(.mk o.1 o.2.1 o.2.2 [] (some z.1),(z.1+1,(z.1,⟨false,x⟩)::z.2))
def gJ (K:Ks) (m:Nat):Nat→Ov→bf Cl→Option (Option Vl×bf Cl)
 |0,_,_=>none
 |n+1,.mk k num t l,z=>match AP K m (.mk k num t l) with
  |none=>none
  |some none=>some (none,z)
  |some (some (o,most))=>match Nat.beq most 0 with
   |true=>some (some (.mk o.1 o.2.1 o.2.2 [] none),z)
   |false=>match decide ((l.length:Int)>(most:Int)) with
    |true=>some (none,z)
    |false=>match Nat.ble l.length 2000000 with
     |false=>none
     |true=>match mg (gJ K m n) l z with
      |none=>none
      |some (none,z2)=>some (none,z2)
      |some (some xs,z2)=>some (some (FX o k xs z2).1,(FX o k xs z2).2)
def lM (K:Ks) (S:Ss) (m:Nat) (name:ByteArray) (st:List Ov) (self:Int):Option (Ss×Except Int Rn):=match aJ m K.mm.2 with
 |none=>none
 |some mk=>match aJ mk.actors K.ma.2 with
  |none=>none
  |some es=>match bh name es with
   |none=>some (S,.error 4)
   |some fn=>match Nat.beq st.length fn.names.length with
    |false=>some (S,.error 1)
    |true=>match Nat.ble st.length 2000000 with
     |false=>none
     |true=>match mg (gJ K m (qS st)) st S.c with
      |none=>none
      |some (none,c2)=>some ({ S with c:=c2 },.error 3)
      |some (some l,c2)=>match Nat.ble l.length 2000000 with
       |false=>none
       |true=>match me c2.2 l with
        |none=>none
        |some true=>some ({ S with c:=c2 },.error 2)
        |some false=>match lY fn.names l (S.s,none) with
         |none=>none
         |some Q=>some ({ S with c:=c2,s:=Q.1 },.ok (BM ⟨m,fn.names,some fn.body,self,[],0,none,⟨none,none,.nil,0,false⟩,zV,⟨0,0,⟨#[]⟩,0,0,⟨#[]⟩,[],[]⟩,⟨none,none,.nil,0,false⟩,none⟩ l Q.2))
def oK (K:Ks) (S:Ss) (r:Rn) (v:Ov):Option (Bool×Ss×Rn):=match r.mode==1 with
 |false=>some (false,S,r)
 |true=>match gJ K r.maker (yV v) v S.c with
  |none=>none
  |some (none,c2)=>some (false,{ S with c:=c2 },r)
  |some (some x,c2)=>match oh K { S with c:=c2 } r r.pause x with
   |none=>none
   |some (false,S2,r2)=>some (false,S2,r2)
   |some (true,S2,r2)=>some (true,S2,{ r2 with mode:=0 })
def vu (K:Ks) (S:Ss) (r:Rn) (v:Ov):Option (Ss×Rn):=match r.mode==2 with
 |false=>some (S,r)
 |true=>match gJ K r.maker (yV v) v S.c with
  |none=>none
  |some (none,c2)=>some ({ S with c:=c2 },r)
  |some (some x,c2)=>some ({ S with c:=c2 },jF { r with mode:=0 } x)
def uU (K:Ks) (r:Rn):Option Rn:=match r.mode==1 with
 |false=>some r
 |true=>match decide (r.last.num<0) with
  |true=>some r
  |false=>match dy K r.pause with
   |none=>none
   |some n=>match ju K.a n 0 with
    |none=>none
    |some j=>some (jD { r with mode:=0 } j r.pause r.pause.sc)
structure r8 where
 kind:Int
 val:Ov
def fc (K:Ks) (w:Int) (S:Ss) (r:Rn):List r8→Option (Bool×Ss×Rn×List r8)
 | []=>some (false,S,r,[])
 |s::l=>match s.kind==1 with
  |true=>match decide (w≥0) with
   |true=>match uU K r with
    |none=>none
    |some r2=>some (true,S,r2,l)
   |false=>fc K w S r l
  |false=>match oK K S r s.val with
   |none=>none
   |some (true,S2,r2)=>some (true,S2,r2,l)
   |some (false,S2,r2)=>fc K w S2 r2 l
def ei (fuels:List Int) (j:Nat):Int:=match fuels with
 | []=>400
 |a::b=>IntKind.i64.wrap (1+(((a::b)[j % (b.length+1)]?).getD 0) % 400)
def gC (K:Ks) (fuels:List Int):Nat→Nat→Ss→Rn→Int→Int→List r8→List Ou→Option (Option (List Ou)×Ss×Rn)
 |0,_,_,_,_,_,_,_=>none
 |n+1,j,S,r,refs,used,l,out=>match decide (used<60000) with
  |false=>some (none,S,r)
  |true=>match xD K (ei fuels j).toNat S r with
   |none=>none
   |some (o,S2,r2)=>match o.kind==1 with
    |true=>gC K fuels n (j+1) S2 r2 refs (IntKind.i64.wrap (used+ei fuels j)) l out
    |false=>match (o.kind==8)||(o.kind==9) with
     |true=>some (some (out++[o]),S2,r2)
     |false=>match o.kind==4 with
      |true=>match vu K S2 r2 (.mk 6 (IntKind.i64.wrap (refs+1)) ⟨#[]⟩ []) with
       |none=>none
       |some (S3,r3)=>gC K fuels n (j+1) S3 r3 (IntKind.i64.wrap (refs+1)) (IntKind.i64.wrap (used+ei fuels j)) l (out++[o])
      |false=>match o.kind==7 with
       |false=>gC K fuels n (j+1) S2 r2 refs (IntKind.i64.wrap (used+ei fuels j)) l (out++[o])
       |true=>match fc K o.num S2 r2 l with
        |none=>none
        |some (false,S3,r3,_)=>some (some (out++[o]),S3,r3)
        |some (true,S3,r3,l3)=>gC K fuels n (j+1) S3 r3 refs (IntKind.i64.wrap (used+ei fuels j)) l3 (out++[o])
def kC (K:Ks) (S:Ss) (m:Nat) (name:ByteArray) (st:List Ov) (fuels:List Int) (l:List r8):Option (Option (List Ou)×Ss×Option Rn):=match lM K S m name st 7 with
 |none=>none
 |some (S1,.error _)=>some (none,S1,none)
 |some (S1,.ok r)=>match gC K fuels 60001 0 S1 r 1000 0 l [] with
  |none=>none
  |some (R,S2,r2)=>some (R,S2,some r2)
end MN
end
section
open Go Go.AM Go.Proofs
set_option maxRecDepth 100000
namespace TK
theorem az:Tryz.prog.follows .mixedOrders=true:=by kernel_rfl
theorem Gc {f:Nat} {args:List AV} {vs:List Value} {r:Value} {y:PV} (hb:lO Tryz.prog f) (hv:∀g w us,us.length=args.length→(∀(j:Nat) (v:Value) (x:AV),us[j]?=some v→args[j]?=some x→aG g w (fun _=>False) none v x)→us=vs)
 (hr:∀M,aY M r y) (h:∀w,Calls Tryz.prog f vs.toArray w fun e w'=>e=.returned r∧w'=w):aU Tryz.prog f args (.p y):=by
 refine⟨hb,fun g w us hno hsw hl hrel=>?_⟩;obtain rfl:=hv g w us hl hrel;refine(h w).mono ?_;rintro e w' ⟨rfl,rfl⟩;exact⟨r,g,rfl,.p _ _ _ (hr _),Ext.refl g w'⟩
theorem Me {a b:PV} {x y:Value} (h1:∀M v,aY M v a→v=x) (h2:∀M v,aY M v b→v=y):∀(g:Gh) (w:World) (us:List Value),us.length=[AV.p a,AV.p b].length→(∀(j:Nat) (v:Value) (z:AV),us[j]?=some v→[AV.p a,AV.p b][j]?=some z→aG g w (fun _=>False) none v z)→us=[x,y]:=by
 intro g w us hl hr
 match us,hl with
 | [u,v],_=>
   have q1:=(hr 0 u _ rfl rfl).pv;have q2:=(hr 1 v _ rfl rfl).pv;rw[h1 _ _ q1,h2 _ _ q2]
theorem BB {f:Nat} {fn:Func} {c:Code} (hf:Tryz.prog.funcs[f]?=some fn) (hb:fn.body=some c) (hn:(fn.name== "runtime.NumGoroutine")=false):lO Tryz.prog f:=⟨fn,c,hf,hb,hn⟩
set_option maxHeartbeats 1000000 in
theorem C0 (s:ByteArray) (c:Int) (w:World):
 Calls Tryz.prog 145 #[.string s,.int .u8 c] w fun e w'=>e=.returned (.int .i64 (Lib.indexByte s.data.toList c.toNat.toUInt8))∧w'=w:=by
 go_enter Tryz.func145,Tryz.ntmps145
 go_wp2
 rw[run_callFunc_extern Tryz.func173 (by kernel_rfl) (by kernel_rfl) (by kernel_rfl) (e:=Extern.BytealgIndexByte.indexByte) (by kernel_rfl),Lib.run_indexByteString];simp only[Result.andThen];rw[Oper.upon_value]
 go_wp2
 go_ret
 exact⟨rfl,rfl⟩
set_option maxHeartbeats 1000000 in
theorem Hw (s:ByteArray) (c:UInt8) (w:World):
 Calls Tryz.prog 52 #[.string s,.string ⟨#[c]⟩] w fun e w'=>e=.returned (.int .i64 (Lib.countByte s.data.toList c))∧w'=w:=by
 go_enter Tryz.func52,Tryz.ntmps52
 go_wp2
 rw[run_callFunc_extern Tryz.func79 (by kernel_rfl) (by kernel_rfl) (by kernel_rfl) (e:=Extern.BytealgCount.count) (by kernel_rfl),Lib.run_countString];simp only[Result.andThen];rw[Oper.upon_value]
 go_wp2
 go_ret
 exact⟨rfl,rfl⟩
theorem FG (l:Bs) (c:UInt8):aU Tryz.prog 145 [.p (.s (B l)),.p (.i .u8 c.toNat)] (.p (.i .i64 (Lib.indexByte l c))):=by
 refine Gc (vs:=[.string (B l),.int .u8 c.toNat]) (r:=.int .i64 (Lib.indexByte l c)) (BB Tryz.func145 rfl (by rfl)) (Me (fun M v h=>by cases h;rfl) (fun M v h=>by cases h;rfl)) (fun M=>.i _ _) (fun w=>?_);have:=C0 (B l) c.toNat w;rw[IG]at this;simpa using this
theorem rW (l:Bs) (c:UInt8):aU Tryz.prog 52 [.p (.s (B l)),.p (.s (B [c]))] (.p (.i .i64 (Lib.countByte l c))):=by
 refine Gc (vs:=[.string (B l),.string (B [c])]) (r:=.int .i64 (Lib.countByte l c)) (BB Tryz.func52 rfl (by rfl)) (Me (fun M v h=>by cases h;rfl) (fun M v h=>by cases h;rfl)) (fun M=>.i _ _) (fun w=>?_);have:=Hw (B l) c w;rw[IG]at this;exact this
theorem CF (l:Bs) (c:UInt8):aU Tryz.prog 119 [.p (.s (B l)),.p (.s (B [c]))] (.p (.i .i64 (Lib.indexByte l c))):=by
 have h:=FG l c
 by_cases hl:l=[c]
 ·subst hl
  rw[show Lib.indexByte [c] c=0 by simp[Lib.indexByte]];refine aU.intro (ah Tryz.prog) az Tryz.func119 rfl (by rfl) (by kernel_rfl) (by show 2≤_;decide) rfl ?_;(conv=>whnf);refine dm (show((B [c]).toList==(B [c]).toList)=true by rw[tD];simp) ?_;(conv=>whnf);exact .inl rfl
 ·generalize Lib.indexByte l c=q at h
  refine aU.intro (ah Tryz.prog) az Tryz.func119 rfl (by rfl) (by kernel_rfl) (by show 2≤_;decide) rfl ?_;(conv=>whnf);refine bC (show((B [c]).toList==(B l).toList)=false by rw[tD];simp only[beq_eq_false_iff_ne];exact fun h=>hl h.symm) ?_;(conv=>whnf);refine Ob (l:=[c]) (k:=0) (c:=c) rfl rfl ?_;(conv=>whnf);refine iX h ?_;(conv=>whnf);exact .inl rfl
theorem index_spec (l:Bs) (c:UInt8):aU Tryz.prog 80 [.p (.s (B l)),.p (.s (B [c]))] (.p (.i .i64 (Lib.indexByte l c))):=by
 have h:=CF l c;generalize Lib.indexByte l c=q at h;refine aU.intro (ah Tryz.prog) az Tryz.func80 rfl (by rfl) (by kernel_rfl) (by show 2≤_;decide) rfl ?_;(conv=>whnf);refine iX h ?_;(conv=>whnf);exact .inl rfl
theorem xV (l:Bs) (c:UInt8):aU Tryz.prog 125 [.p (.s (B l)),.p (.s (B [c]))] (.p (.b (decide (Lib.indexByte l c≥0)))):=by
 have h:=index_spec l c;generalize Lib.indexByte l c=q at h;refine aU.intro (ah Tryz.prog) az Tryz.func125 rfl (by rfl) (by kernel_rfl) (by show 2≤_;decide) rfl ?_;(conv=>whnf);refine iX h ?_;(conv=>whnf);exact .inl rfl
end TK
end
