/- Contracts, and the law, for every input. No conditions. -/
import Derived.Test.YtdmopjgjhfhfdaaGreatDoorMNL
import Derived.Lib.Strings
import Derived.Lib.Slices
import Derived.Lib.Walk
set_option linter.all false
set_option maxRecDepth 100000
section
open Go Go.AM Go.Proofs TK
namespace MN
def cntF (t:ByteArray) (c:UInt8):Int:=Lib.countByte t.data.toList c
def tu (K:Ks) (m:Nat) (v:Ov):Option (ByteArray×Bool):=match v with
 |.mk _ num t l=>match aK m K.mm.2 with
  |none=>none
  |some mk=>match decide (num<0)||decide (num>=(fT mk.funs:Int)) with
   |true=>some (⟨#[]⟩,false)
   |false=>match AA K mk num.toNat with
    |none=>none
    |some c=>match aK c K.n.2 with
     |none=>none
     |some nd=>match (t.size:Int)==(nd.free.length:Int) with
      |false=>some (⟨#[]⟩,false)
      |true=>some (t,(IntKind.i64.wrap (cntF t 49+cntF t 48)==(t.size:Int))&&(cntF t 49==(l.length:Int)))
mutual
def sY:Ov->Nat
 |.mk _ _ _ l=>mg l+1
def mg:List Ov->Nat
 | []=>0
 |v::r=>max (sY v) (mg r)
end
def yB (K:Ks) (m:Nat) (v:Ov):Option (Option ((Int×Int×ByteArray)×Nat)):=match v with
 |.mk k num t l=>match k==1 with
  |true=>some (some ((1,0,⟨#[]⟩),0))
  |false=>match (k==2)||(k==6) with
   |true=>some (some ((k,num,⟨#[]⟩),0))
   |false=>match k==3 with
    |true=>match !(num==0)&&!(num==1) with
     |true=>some none
     |false=>some (some ((3,num,⟨#[]⟩),0))
    |false=>match k==4 with
     |true=>match decide ((t.size:Int)>64) with
      |true=>some none
      |false=>some (some ((4,0,t),0))
     |false=>match k==5 with
      |true=>some (some ((5,0,t),6))
      |false=>match k==7 with
       |true=>match tu K m (.mk 7 num t l) with
        |none=>none
        |some (_,false)=>some none
        |some (T,true)=>some (some ((7,num,T),l.length))
       |false=>match k==8 with
        |true=>some (some ((8,0,⟨#[]⟩),1))
        |false=>some none
def kD (f:Ov->aZ Cl->Option (Option Vl×aZ Cl)):List Ov->aZ Cl->Option (Option (List Vl)×aZ Cl)
 | [],z=>some (some [],z)
 |v::r,z=>match f v z with
  |none=>none
  |some (none,z2)=>some (none,z2)
  |some (some x,z2)=>match kD f r z2 with
   |none=>none
   |some (none,z3)=>some (none,z3)
   |some (some l,z3)=>some (some (x::l),z3)
def El (o:Int×Int×ByteArray) (k:Int) (xs:List Vl) (z:aZ Cl):Vl×aZ Cl:=match k==8 with
 |false=>(.mk o.1 o.2.1 o.2.2 xs none,z)
 |true=>match xs with
  | []=>(.mk o.1 o.2.1 o.2.2 [] (some z.1),(z.1+1,(z.1,⟨true,zV⟩)::z.2))
  |x::_=>(.mk o.1 o.2.1 o.2.2 [] (some z.1),(z.1+1,(z.1,⟨false,x⟩)::z.2))
def fh (K:Ks) (m:Nat):Nat->Ov->aZ Cl->Option (Option Vl×aZ Cl)
 |0,_,_=>none
 |n+1,.mk k num t l,z=>match yB K m (.mk k num t l) with
  |none=>none
  |some none=>some (none,z)
  |some (some (o,most))=>match Nat.beq most 0 with
   |true=>some (some (.mk o.1 o.2.1 o.2.2 [] none),z)
   |false=>match decide ((l.length:Int)>(most:Int)) with
    |true=>some (none,z)
    |false=>match Nat.ble l.length 2000000 with
     |false=>none
     |true=>match kD (fh K m n) l z with
      |none=>none
      |some (none,z2)=>some (none,z2)
      |some (some xs,z2)=>some (some (El o k xs z2).1,(El o k xs z2).2)
def fY (K:Ks) (S:Ss) (m:Nat) (name:ByteArray) (st:List Ov) (self:Int):Option (Ss×Except Int Rn):=match aK m K.mm.2 with
 |none=>none
 |some mk=>match aK mk.actors K.ma.2 with
  |none=>none
  |some es=>match aV name es with
   |none=>some (S,.error 4)
   |some fn=>match Nat.beq st.length fn.names.length with
    |false=>some (S,.error 1)
    |true=>match Nat.ble st.length 2000000 with
     |false=>none
     |true=>match kD (fh K m (mg st)) st S.c with
      |none=>none
      |some (none,c2)=>some ({ S with c:=c2 },.error 3)
      |some (some l,c2)=>match Nat.ble l.length 2000000 with
       |false=>none
       |true=>match mN c2.2 l with
        |none=>none
        |some true=>some ({ S with c:=c2 },.error 2)
        |some false=>match kU fn.names l (S.s,none) with
         |none=>none
         |some Q=>some ({ S with c:=c2,s:=Q.1 },.ok (oc ⟨m,fn.names,some fn.body,self,[],0,none,⟨none,none,.nil,0,false⟩,zV,⟨0,0,⟨#[]⟩,0,0,⟨#[]⟩,[],[]⟩,⟨none,none,.nil,0,false⟩,none⟩ l Q.2))
def lW (K:Ks) (S:Ss) (r:Rn) (v:Ov):Option (Bool×Ss×Rn):=match r.mode==1 with
 |false=>some (false,S,r)
 |true=>match fh K r.maker (sY v) v S.c with
  |none=>none
  |some (none,c2)=>some (false,{ S with c:=c2 },r)
  |some (some x,c2)=>match nL K { S with c:=c2 } r r.pause x with
   |none=>none
   |some (false,S2,r2)=>some (false,S2,r2)
   |some (true,S2,r2)=>some (true,S2,{ r2 with mode:=0 })
def pP (K:Ks) (S:Ss) (r:Rn) (v:Ov):Option (Ss×Rn):=match r.mode==2 with
 |false=>some (S,r)
 |true=>match fh K r.maker (sY v) v S.c with
  |none=>none
  |some (none,c2)=>some ({ S with c:=c2 },r)
  |some (some x,c2)=>some ({ S with c:=c2 },kI { r with mode:=0 } x)
def tH (K:Ks) (r:Rn):Option Rn:=match r.mode==1 with
 |false=>some r
 |true=>match decide (r.last.num<0) with
  |true=>some r
  |false=>match cW K r.pause with
   |none=>none
   |some n=>match jn K.a n 0 with
    |none=>none
    |some j=>some (kJ { r with mode:=0 } j r.pause r.pause.sc)
structure gV where
 kind:Int
 val:Ov
def cq (K:Ks) (w:Int) (S:Ss) (r:Rn):List gV->Option (Bool×Ss×Rn×List gV)
 | []=>some (false,S,r,[])
 |s::l=>match s.kind==1 with
  |true=>match decide (w>=0) with
   |true=>match tH K r with
    |none=>none
    |some r2=>some (true,S,r2,l)
   |false=>cq K w S r l
  |false=>match lW K S r s.val with
   |none=>none
   |some (true,S2,r2)=>some (true,S2,r2,l)
   |some (false,S2,r2)=>cq K w S2 r2 l
def dQ (fuels:List Int) (j:Nat):Int:=match fuels with
 | []=>400
 |a::b=>IntKind.i64.wrap (1+(((a::b)[j % (b.length+1)]?).getD 0) % 400)
def gP (K:Ks) (fuels:List Int):Nat->Nat->Ss->Rn->Int->Int->List gV->List Ou->Option (Option (List Ou)×Ss×Rn)
 |0,_,_,_,_,_,_,_=>none
 |n+1,j,S,r,refs,used,l,out=>match decide (used<60000) with
  |false=>some (none,S,r)
  |true=>match uO K (dQ fuels j).toNat S r with
   |none=>none
   |some (o,S2,r2)=>match o.kind==1 with
    |true=>gP K fuels n (j+1) S2 r2 refs (IntKind.i64.wrap (used+dQ fuels j)) l out
    |false=>match (o.kind==8)||(o.kind==9) with
     |true=>some (some (out++[o]),S2,r2)
     |false=>match o.kind==4 with
      |true=>match pP K S2 r2 (.mk 6 (IntKind.i64.wrap (refs+1)) ⟨#[]⟩ []) with
       |none=>none
       |some (S3,r3)=>gP K fuels n (j+1) S3 r3 (IntKind.i64.wrap (refs+1)) (IntKind.i64.wrap (used+dQ fuels j)) l (out++[o])
      |false=>match o.kind==7 with
       |false=>gP K fuels n (j+1) S2 r2 refs (IntKind.i64.wrap (used+dQ fuels j)) l (out++[o])
       |true=>match cq K o.num S2 r2 l with
        |none=>none
        |some (false,S3,r3,_)=>some (some (out++[o]),S3,r3)
        |some (true,S3,r3,l3)=>gP K fuels n (j+1) S3 r3 refs (IntKind.i64.wrap (used+dQ fuels j)) l3 (out++[o])
def ir (K:Ks) (S:Ss) (m:Nat) (name:ByteArray) (st:List Ov) (fuels:List Int) (l:List gV):Option (Option (List Ou)×Ss×Option Rn):=match fY K S m name st 7 with
 |none=>none
 |some (S1,.error _)=>some (none,S1,none)
 |some (S1,.ok r)=>match gP K fuels 60001 0 S1 r 1000 0 l [] with
  |none=>none
  |some (R,S2,r2)=>some (R,S2,some r2)
end MN
end
section
open Go Go.AM Go.Proofs
namespace TK
theorem av:Tryz.prog.follows .mixedOrders=true:=by kernel_rfl
theorem Hu {f:Nat} {args:List AV} {vs:List Value} {r:Value} {y:PV} (hb:mG Tryz.prog f) (hv:∀g w us,us.length=args.length->(∀(j:Nat) (v:Value) (x:AV),us[j]?=some v->args[j]?=some x->aH g w (fun _=>False) none v x)->us=vs)
 (hr:∀M,bq M r y) (h:∀w,Calls Tryz.prog f vs.toArray w fun e w'=>e=.returned r/\w'=w):aU Tryz.prog f args (.p y):=by
 refine⟨hb,fun g w us hno hsw hl hrel=>?_⟩;obtain rfl:=hv g w us hl hrel;refine(h w).mono ?_;rintro e w' ⟨rfl,rfl⟩;exact⟨r,g,rfl,.p _ _ _ (hr _),Ext.refl g w'⟩
theorem NK {a b:PV} {x y:Value} (h1:∀M v,bq M v a->v=x) (h2:∀M v,bq M v b->v=y):∀(g:Gh) (w:World) (us:List Value),us.length=[AV.p a,AV.p b].length->(∀(j:Nat) (v:Value) (z:AV),us[j]?=some v->[AV.p a,AV.p b][j]?=some z->aH g w (fun _=>False) none v z)->us=[x,y]:=by
 intro g w us hl hr
 match us,hl with
 | [u,v],_=>
   have q1:=(hr 0 u _ rfl rfl).pv;have q2:=(hr 1 v _ rfl rfl).pv;rw[h1 _ _ q1,h2 _ _ q2]
theorem Cf {f:Nat} {fn:Func} {c:Code} (hf:Tryz.prog.funcs[f]?=some fn) (hb:fn.body=some c) (hn:(fn.name== "runtime.NumGoroutine")=false):mG Tryz.prog f:=⟨fn,c,hf,hb,hn⟩
set_option maxHeartbeats 1000000 in
theorem Ec (s:ByteArray) (c:Int) (w:World):
 Calls Tryz.prog 145 #[.string s,.int .u8 c] w fun e w'=>e=.returned (.int .i64 (Lib.indexByte s.data.toList c.toNat.toUInt8))/\w'=w:=by
 go_enter Tryz.func145,Tryz.ntmps145
 go_wp2
 rw[run_callFunc_extern Tryz.func173 (by kernel_rfl) (by kernel_rfl) (by kernel_rfl) (e:=Extern.BytealgIndexByte.indexByte) (by kernel_rfl),Lib.run_indexByteString];simp only[Result.andThen];rw[Oper.upon_value]
 go_wp2
 go_ret
 exact⟨rfl,rfl⟩
set_option maxHeartbeats 1000000 in
theorem JI (s:ByteArray) (c:UInt8) (w:World):
 Calls Tryz.prog 52 #[.string s,.string ⟨#[c]⟩] w fun e w'=>e=.returned (.int .i64 (Lib.countByte s.data.toList c))/\w'=w:=by
 go_enter Tryz.func52,Tryz.ntmps52
 go_wp2
 rw[run_callFunc_extern Tryz.func79 (by kernel_rfl) (by kernel_rfl) (by kernel_rfl) (e:=Extern.BytealgCount.count) (by kernel_rfl),Lib.run_countString];simp only[Result.andThen];rw[Oper.upon_value]
 go_wp2
 go_ret
 exact⟨rfl,rfl⟩
theorem FQ (l:Bs) (c:UInt8):aU Tryz.prog 145 [.p (.s (B l)),.p (.i .u8 c.toNat)] (.p (.i .i64 (Lib.indexByte l c))):=by
 refine Hu (vs:=[.string (B l),.int .u8 c.toNat]) (r:=.int .i64 (Lib.indexByte l c)) (Cf Tryz.func145 rfl (by rfl)) (NK (fun M v h=>by cases h;rfl) (fun M v h=>by cases h;rfl)) (fun M=>.i _ _) (fun w=>?_);have:=Ec (B l) c.toNat w;rw[J5]at this;simpa using this
theorem tc (l:Bs) (c:UInt8):aU Tryz.prog 52 [.p (.s (B l)),.p (.s (B [c]))] (.p (.i .i64 (Lib.countByte l c))):=by
 refine Hu (vs:=[.string (B l),.string (B [c])]) (r:=.int .i64 (Lib.countByte l c)) (Cf Tryz.func52 rfl (by rfl)) (NK (fun M v h=>by cases h;rfl) (fun M v h=>by cases h;rfl)) (fun M=>.i _ _) (fun w=>?_);have:=JI (B l) c w;rw[J5]at this;exact this
theorem Ee (l:Bs) (c:UInt8):aU Tryz.prog 119 [.p (.s (B l)),.p (.s (B [c]))] (.p (.i .i64 (Lib.indexByte l c))):=by
 have h:=FQ l c
 by_cases hl:l=[c]
 ·subst hl
  rw[show Lib.indexByte [c] c=0 by simp[Lib.indexByte]];refine aU.iN av Tryz.func119 rfl (by rfl) (by kernel_rfl) rfl rfl ?_;(conv=>whnf);refine dy (show((B [c]).toList==(B [c]).toList)=true by rw[tR];simp) ?_;(conv=>whnf);exact .inl rfl
 ·generalize Lib.indexByte l c=q at h
  refine aU.iN av Tryz.func119 rfl (by rfl) (by kernel_rfl) rfl rfl ?_;(conv=>whnf);refine bD (show((B [c]).toList==(B l).toList)=false by rw[tR];simp only[beq_eq_false_iff_ne];exact fun h=>hl h.symm) ?_;(conv=>whnf);refine P9 (l:=[c]) (k:=0) (c:=c) rfl rfl ?_;(conv=>whnf);refine kK h ?_;(conv=>whnf);exact .inl rfl
theorem index_spec (l:Bs) (c:UInt8):aU Tryz.prog 80 [.p (.s (B l)),.p (.s (B [c]))] (.p (.i .i64 (Lib.indexByte l c))):=by
 have h:=Ee l c;generalize Lib.indexByte l c=q at h;refine aU.iN av Tryz.func80 rfl (by rfl) (by kernel_rfl) rfl rfl ?_;(conv=>whnf);refine kK h ?_;(conv=>whnf);exact .inl rfl
theorem zd (l:Bs) (c:UInt8):aU Tryz.prog 125 [.p (.s (B l)),.p (.s (B [c]))] (.p (.b (decide (Lib.indexByte l c>=0)))):=by
 have h:=index_spec l c;generalize Lib.indexByte l c=q at h;refine aU.iN av Tryz.func125 rfl (by rfl) (by kernel_rfl) rfl rfl ?_;(conv=>whnf);refine kK h ?_;(conv=>whnf);exact .inl rfl
end TK
end
section
open Go Go.AM Go.Proofs TK
namespace MN
def QD (K:Ks):Heap:=[(1000000000,tq K.mm),(1000000001,iZ K.n),(1000000002,yO K.a)]
theorem JL (K:Ks) (m:Nat) (v:Ov) (R:ByteArray×Bool) (hF:tu K m v=some R):
 au Tryz.prog 38 [.p (.bH mS m),.p (eO v)] (QD K) (.cI [.p (.s R.1),.p (.b R.2)]) (QD K):=by
 obtain⟨k,num,t,l⟩:=v;have c1:=tc t.data.toList 49;have c2:=tc t.data.toList 48;rw[<-OX t]at c1 c2;have hlen:=kX l;unfold tu at hF;rw[eO];dsimp only at hF
 cases hm:aK m K.mm.2 with
 |none=>rw[hm]at hF;cases hF
 |some mk=>
  rw[hm]at hF;obtain⟨m1,m2,m3,m4,m5,m6⟩:=mk;dsimp only at hF;unfold QD tq iZ yO;refine au.iN av Tryz.func38 rfl (by rfl) (by kernel_rfl) rfl rfl ?_;(conv=>whnf);refine ai ?_ ?_<;>intro h1<;>conv=>whnf
  ·rw[show decide (num<0)=true from h1,Bool.true_or]at hF
   cases hF;refine ag (.inl (by kernel_rfl)) ?_;(conv=>whnf);refine⟨.inl rfl,⟨s6,s6,s6,trivial⟩⟩
  rw[show decide (num<0)=false from h1,Bool.false_or]at hF;have h1':¬num<0:=of_decide_eq_false h1
  cases m1 with
  |none=>
   rw[show decide (num>=(fT none:Int))=true from decide_eq_true (by show num>=((0:Nat):Int);omega)]at hF;cases hF;refine bw jr hm rfl ?_;(conv=>whnf);refine dy (decide_eq_true (by show num>=((0:Nat):Int);omega)) ?_;(conv=>whnf);refine ag (.inl (by kernel_rfl)) ?_;(conv=>whnf);refine⟨.inl rfl,⟨s6,s6,s6,trivial⟩⟩
  |some q=>
   obtain⟨q1,q2⟩:=q;refine bw jr hm rfl ?_;(conv=>whnf);refine ai ?_ ?_<;>intro h2<;>conv=>whnf
   ·rw[show decide (num>=(fT (some (q1,q2)):Int))=true from h2]at hF
    cases hF;refine ag (.inl (by kernel_rfl)) ?_;(conv=>whnf);refine⟨.inl rfl,⟨s6,s6,s6,trivial⟩⟩
   ·rw[show decide (num>=(fT (some (q1,q2)):Int))=false from h2]at hF
    have h2':¬num>=(q2:Int):=of_decide_eq_false h2;dsimp only at hF;unfold AA at hF;dsimp only at hF;have hlt:num.toNat<q2:=by omega
    rw[show Nat.blt num.toNat q2=true from by rw[Nat.blt_eq];exact hlt]at hF;dsimp only at hF
    cases ha:aK q1 K.a.2 with
    |none=>rw[ha]at hF;cases hF
    |some al=>
     rw[ha]at hF;dsimp only at hF
     cases hc:al[num.toNat]? with
     |none=>rw[hc]at hF;cases hF
     |some c=>
      rw[hc]at hF;dsimp only at hF
      cases hn:aK c K.n.2 with
      |none=>rw[hn]at hF;cases hF
      |some nd=>
       rw[hn]at hF;obtain⟨n1,n2,n3,n4,n5,n6,n7,n8,n9⟩:=nd;dsimp only at hF;have hfl:(n9.map PV.s).length=n9.length:=List.length_map _;refine bw jr hm rfl ?_;(conv=>whnf);refine ag ⟨by omega,hlt⟩ ?_;(conv=>whnf);refine ag ⟨rfl,by decide,.inr rfl⟩ ?_;refine⟨_,aj ha,?_⟩;refine aq (i:=num.toNat) (x:=.bH nS c) (by unfold rK;rw[List.getElem?_map,hc];rfl) ?_;(conv=>whnf);refine bw dm hn rfl ?_;(conv=>whnf);refine ag (.inl (by kernel_rfl)) ?_;(conv=>whnf);refine ai ?_ ?_<;>intro h3<;>conv=>whnf
       ·rw[show((t.size:Int)==(n9.length:Int))=false by rw[<-hfl];simpa using h3]at hF
        cases hF;refine⟨.inl rfl,⟨s6,s6,s6,trivial⟩⟩
       rw[show((t.size:Int)==(n9.length:Int))=true by rw[<-hfl];simpa using h3]at hF;dsimp only at hF;cases hF;refine kK c1 ?_;(conv=>whnf);refine kK c2 ?_;(conv=>whnf);refine ag (.inl (by kernel_rfl)) ?_;(conv=>whnf);refine ai ?_ ?_<;>intro h4<;>conv=>whnf
       ·rw[show(IntKind.i64.wrap (cntF t 49+cntF t 48)==(t.size:Int))=true from h4,Bool.true_and,<-hlen]
        refine ag (.inl (by kernel_rfl)) ?_;(conv=>whnf);refine⟨.inl rfl,⟨s6,s6,s6,trivial⟩⟩
       ·rw[show(IntKind.i64.wrap (cntF t 49+cntF t 48)==(t.size:Int))=false from h4,Bool.false_and]
        refine ag (.inl (by kernel_rfl)) ?_;(conv=>whnf);refine⟨.inl rfl,⟨s6,s6,s6,trivial⟩⟩
theorem xu {s:ByteArray} {c:UInt8} (h:cT s c=true):s=⟨#[c]⟩:=by
 unfold cT at h;rw[OX s,show(⟨#[c]⟩:ByteArray)=B [c] from rfl,tR]at h;have:=eq_of_beq h;rw[OX s,this];rfl
theorem pX {op:ByteArray} (h:mV op=true):cT op 43=true\/cT op 45=true\/cT op 42=true\/cT op 47=true\/cT op 37=true\/cT op 60=true:=by
 unfold mV at h;simpa[or_assoc] using h
theorem Q3 (z:aZ (List Vl)) (op:ByteArray) (e:mV op=true) (xs:List Vl) (R:Vl×ByteArray) (hl:xs.length<=2000001) (hF:er op xs=some R):
 au Tryz.prog 255 [.p (.s op),.p (.sl 5 (bz xs))] [(1000000000,pO z)] (.cI [.p (eV R.1),.p (.s R.2)]) [(1000000000,pO z)]:=by
 have n1:(op.toList==IE.toList)=false:=by rcases pX e with h|h|h|h|h|h<;>rw[xu h]<;>decide +kernel
 have n2:(op.toList==GK.toList)=false:=by rcases pX e with h|h|h|h|h|h<;>rw[xu h]<;>decide +kernel
 unfold er at hF;rw[e]at hF;unfold pO;refine au.qG (aG Tryz.prog) Tryz.func255 rfl (by rfl) (by show 2<=_;decide) rfl ?_;refine jh.cut (aG Tryz.prog) av (by kernel_rfl) 3 [0,1,4,6,7] [4,1000000000] (fun _:Unit=>[.p (.s op),.p (.sl 5 (bz xs)),.ptr 4 0,.p (.i .i64 2),.p (.i .i64 2)]) (fun _=>[.cells [.p (.i .i64 0),.p (.i .i64 0),.p (.s ⟨#[]⟩),.cx,.p .gm],.store 139 false vS z.1 5 (cD bz z.2)]) (fun _=>True) ?_ ?_
 ·conv=>whnf
  cases e0:cT op 43 with
  |true=>
   refine dy e0 ?_;(conv=>whnf);refine dy e0 ?_;(conv=>whnf);exact⟨(),⟨rfl,rfl,rfl,rfl⟩,trivial⟩
  |false=>
   refine bD e0 ?_;(conv=>whnf)
   cases e1:cT op 45 with
   |true=>
    refine dy e1 ?_;(conv=>whnf);refine dy e1 ?_;(conv=>whnf);exact⟨(),⟨rfl,rfl,rfl,rfl⟩,trivial⟩
   |false=>
    refine bD e1 ?_;(conv=>whnf)
    cases e2:cT op 42 with
    |true=>
     refine dy e2 ?_;(conv=>whnf);refine dy e2 ?_;(conv=>whnf);exact⟨(),⟨rfl,rfl,rfl,rfl⟩,trivial⟩
    |false=>
     refine bD e2 ?_;(conv=>whnf)
     cases e3:cT op 47 with
     |true=>
      refine dy e3 ?_;(conv=>whnf);refine dy e3 ?_;(conv=>whnf);exact⟨(),⟨rfl,rfl,rfl,rfl⟩,trivial⟩
     |false=>
      refine bD e3 ?_;(conv=>whnf)
      cases e4:cT op 37 with
      |true=>
       refine dy e4 ?_;(conv=>whnf);refine dy e4 ?_;(conv=>whnf);exact⟨(),⟨rfl,rfl,rfl,rfl⟩,trivial⟩
      |false=>
       refine bD e4 ?_;(conv=>whnf)
       cases e5:cT op 60 with
       |true=>
        refine dy e5 ?_;(conv=>whnf);exact⟨(),⟨rfl,rfl,rfl,rfl⟩,trivial⟩
       |false=>
        rcases pX e with h|h|h|h|h|h<;>simp_all
 intro _ _;refine jh.fin (aG Tryz.prog) av (by kernel_rfl) ?_;(conv=>whnf);rcases xs with _|⟨⟨ak,an,at_,aa,ac⟩,_|⟨⟨bk,bn,bt,ba,bc⟩,_|⟨d,xs⟩⟩⟩
 ·conv=>whnf
  cases hF;refine⟨.inl rfl,⟨s6,trivial⟩⟩
 ·conv=>whnf
  cases hF;refine⟨.inl rfl,⟨s6,trivial⟩⟩
 ·conv=>whnf
  replace hF:(match (ak==2)&&(bk==2) with|false=>some (zV,cK)|true=>match cT op 60 with|true=>some (vI 3 (bI (decide (an<bn))),(⟨#[]⟩:ByteArray))|false=>some (oL op an bn))=some R:=hF;have har:=Gy op an bn;refine bK (aG _) av (by kernel_rfl) 2 [0,1,4,6,50,51,52] [4,1000000000] (fun j (_:Unit)=>[.p (.s op),.p (.sl 5 ([.agg [.i .i64 ak,.i .i64 an,.s at_,.sl 5 (bz aa),eP cS ac],.agg [.i .i64 bk,.i .i64 bn,.s bt,.sl 5 (bz ba),eP cS bc]])),.ptr 4 0,.p (.i .i64 2),.p (.sl 5 ([.agg [.i .i64 ak,.i .i64 an,.s at_,.sl 5 (bz aa),eP cS ac],.agg [.i .i64 bk,.i .i64 bn,.s bt,.sl 5 (bz ba),eP cS bc]])),.p (.i .i64 2),.p (.i .i64 (ix j))]) (fun _ _=>[.cells [.p (.i .i64 0),.p (.i .i64 0),.p (.s ⟨#[]⟩),.cx,.p .gm],.store 139 false vS z.1 5 (cD bz z.2)]) (fun j _=>(1<=j->(ak==2)=true)/\(2<=j->(bk==2)=true)) () ⟨rfl,rfl,rfl,rfl⟩ ⟨by omega,by omega⟩ ?_;rintro j _ hj ⟨q1,q2⟩;(conv=>whnf);refine ai ?_ ?_<;>intro h1<;>conv=>whnf
  ·have hj1:j<2:=cu h1 rfl hj (by omega)
   have hj2:j=0\/j=1:=by omega
   rcases hj2 with rfl|rfl
   ·refine bM (x:=.agg [.i .i64 ak,.i .i64 an,.s at_,.sl 5 (bz aa),eP cS ac]) rfl (by omega) ?_
    (conv=>whnf);refine ai ?_ ?_<;>intro g1<;>conv=>whnf
    ·rw[show((ak==2)&&(bk==2))=false from(by rw[show(ak==2)=false by simpa using g1];rfl)]at hF
     cases hF;refine⟨.inl rfl,⟨s6,trivial⟩⟩
    ·exact⟨by omega,(),⟨rfl,rfl,rfl,rfl⟩,⟨fun _=>(by simpa using g1),by omega⟩⟩
   ·refine bM (x:=.agg [.i .i64 bk,.i .i64 bn,.s bt,.sl 5 (bz ba),eP cS bc]) rfl (by omega) ?_
    (conv=>whnf);refine ai ?_ ?_<;>intro g1<;>conv=>whnf
    ·rw[show((ak==2)&&(bk==2))=false from(by rw[show(bk==2)=false by simpa using g1,Bool.and_false])]at hF
     cases hF;refine⟨.inl rfl,⟨s6,trivial⟩⟩
    ·exact⟨by omega,(),⟨rfl,rfl,rfl,rfl⟩,⟨fun _=>q1 (by omega),fun _=>(by simpa using g1)⟩⟩
  have hj1:j=2:=cv h1 rfl hj (by omega);subst hj1;rw[q1 (by omega),q2 (by omega)]at hF
  try dsimp only at hF
  (conv=>whnf);refine bD n1 ?_;(conv=>whnf);refine bD n2 ?_;(conv=>whnf)
  cases n3:cT op 60 with
  |true=>
   rw[n3]at hF;refine dy n3 ?_;(conv=>whnf);refine aq (i:=0) (x:=.agg [.i .i64 ak,.i .i64 an,.s at_,.sl 5 (bz aa),eP cS ac]) rfl ?_;(conv=>whnf);refine aq (i:=1) (x:=.agg [.i .i64 bk,.i .i64 bn,.s bt,.sl 5 (bz ba),eP cS bc]) rfl ?_;(conv=>whnf);cases hF;refine kK (qT _) ?_;(conv=>whnf);refine ag (.inl (by kernel_rfl)) ?_;(conv=>whnf);refine⟨.inl rfl,⟨s6,trivial⟩⟩
  |false=>
   rw[n3]at hF;refine bD n3 ?_;(conv=>whnf);refine aq (i:=0) (x:=.agg [.i .i64 ak,.i .i64 an,.s at_,.sl 5 (bz aa),eP cS ac]) rfl ?_;(conv=>whnf);refine aq (i:=1) (x:=.agg [.i .i64 bk,.i .i64 bn,.s bt,.sl 5 (bz ba),eP cS bc]) rfl ?_;(conv=>whnf);cases hF;generalize oL op an bn=q at har;obtain⟨⟨u1,u2,u3,u4,u5⟩,w⟩:=q;rw[eV]at har;refine kK har ?_;(conv=>whnf);refine ag (.inl (by kernel_rfl)) ?_;(conv=>whnf);refine⟨.inl rfl,⟨s6,trivial⟩⟩
 ·conv=>whnf
  cases hF;refine⟨.inl rfl,⟨s6,trivial⟩⟩
theorem P8 (z:aZ (List Vl)) (op:ByteArray) (e0:cT op 43=false) (e1:cT op 45=false) (e2:cT op 42=false) (e3:cT op 47=false) (e4:cT op 37=false) (e5:cT op 60=false) (e6:cT op 61=true) (xs:List Vl) (R:Vl×ByteArray) (hF:er op xs=some R):
 au Tryz.prog 255 [.p (.s op),.p (.sl 5 (bz xs))] [(1000000000,pO z)] (.cI [.p (eV R.1),.p (.s R.2)]) [(1000000000,pO z)]:=by
 have e:mV op=false:=by
  unfold mV;simp[e0,e1,e2,e3,e4,e5]
 have n1:(op.toList==IE.toList)=false:=by rw[xu e6];decide +kernel
 have n2:(op.toList==GK.toList)=false:=by rw[xu e6];decide +kernel
 unfold er at hF;rw[e,e6]at hF;unfold pO
 cases xs with
 |nil=>
  refine au.iN av Tryz.func255 rfl (by rfl) (by kernel_rfl) rfl rfl ?_;(conv=>whnf);refine bD e0 ?_;(conv=>whnf);refine bD e1 ?_;(conv=>whnf);refine bD e2 ?_;(conv=>whnf);refine bD e3 ?_;(conv=>whnf);refine bD e4 ?_;(conv=>whnf);refine bD e5 ?_;(conv=>whnf);refine bD n2 ?_;(conv=>whnf);refine bD n1 ?_;(conv=>whnf);refine dy e6 ?_;(conv=>whnf);cases hF;refine⟨.inl rfl,⟨s6,trivial⟩⟩
 |cons a xs=>
  cases xs with
  |nil=>
   refine au.iN av Tryz.func255 rfl (by rfl) (by kernel_rfl) rfl rfl ?_;(conv=>whnf);refine bD e0 ?_;(conv=>whnf);refine bD e1 ?_;(conv=>whnf);refine bD e2 ?_;(conv=>whnf);refine bD e3 ?_;(conv=>whnf);refine bD e4 ?_;(conv=>whnf);refine bD e5 ?_;(conv=>whnf);refine bD n2 ?_;(conv=>whnf);refine bD n1 ?_;(conv=>whnf);refine dy e6 ?_;(conv=>whnf);cases hF;refine⟨.inl rfl,⟨s6,trivial⟩⟩
  |cons b xs=>
   cases xs with
   |cons d xs=>
    refine au.iN av Tryz.func255 rfl (by rfl) (by kernel_rfl) rfl rfl ?_;(conv=>whnf);refine bD e0 ?_;(conv=>whnf);refine bD e1 ?_;(conv=>whnf);refine bD e2 ?_;(conv=>whnf);refine bD e3 ?_;(conv=>whnf);refine bD e4 ?_;(conv=>whnf);refine bD e5 ?_;(conv=>whnf);refine bD n2 ?_;(conv=>whnf);refine bD n1 ?_;(conv=>whnf);refine dy e6 ?_;(conv=>whnf);cases hF;refine⟨.inl rfl,⟨s6,trivial⟩⟩
   |nil=>
    dsimp only at hF
    cases hs:rN (lu a) a b with
    |none=>rw[hs]at hF;cases hF
    |some q=>
     rw[hs]at hF;cases hF;have hsm:=Bi _ a b q hs;have hbl:=qT q.1;obtain⟨ak,an,at_,aa,ac⟩:=a;obtain⟨bk,bn,bt,ba,bc⟩:=b;rw[eV,eV]at hsm;refine au.iN av Tryz.func255 rfl (by rfl) (by kernel_rfl) rfl rfl ?_;(conv=>whnf);refine bD e0 ?_;(conv=>whnf);refine bD e1 ?_;(conv=>whnf);refine bD e2 ?_;(conv=>whnf);refine bD e3 ?_;(conv=>whnf);refine bD e4 ?_;(conv=>whnf);refine bD e5 ?_;(conv=>whnf);refine bD n2 ?_;(conv=>whnf);refine bD n1 ?_;(conv=>whnf);refine dy e6 ?_;(conv=>whnf);refine aq (i:=0) (x:=.agg [.i .i64 ak,.i .i64 an,.s at_,.sl 5 (bz aa),eP cS ac]) rfl ?_;(conv=>whnf);refine aq (i:=1) (x:=.agg [.i .i64 bk,.i .i64 bn,.s bt,.sl 5 (bz ba),eP cS bc]) rfl ?_;(conv=>whnf);refine kK hsm ?_;(conv=>whnf);refine ag (.inl (by kernel_rfl)) ?_;(conv=>whnf);refine kK hbl ?_;(conv=>whnf);refine⟨.inl rfl,⟨s6,trivial⟩⟩
theorem Qc (z:aZ (List Vl)) (op:ByteArray) (e0:cT op 43=false) (e1:cT op 45=false) (e2:cT op 42=false) (e3:cT op 47=false) (e4:cT op 37=false) (e5:cT op 60=false) (e6:cT op 61=false) (n2:(op.toList==GK.toList)=true) (xs:List Vl) (R:Vl×ByteArray) (hF:er op xs=some R):
 au Tryz.prog 255 [.p (.s op),.p (.sl 5 (bz xs))] [(1000000000,pO z)] (.cI [.p (eV R.1),.p (.s R.2)]) [(1000000000,pO z)]:=by
 have e:mV op=false:=by
  unfold mV;rw[e0,e1,e2,e3,e4,e5];rfl
 have n1:(op.toList==IE.toList)=false:=by rw[eq_of_beq n2];decide +kernel
 unfold er at hF;rw[e,e6,n2]at hF;unfold pO;rcases xs with _|⟨⟨ak,an,at_,aa,ac⟩,_|⟨⟨bk,bn,bt,ba,bc⟩,_|⟨d,xs⟩⟩⟩
 ·refine au.iN av Tryz.func255 rfl (by rfl) (by kernel_rfl) rfl rfl ?_
  (conv=>whnf);refine bD e0 ?_;(conv=>whnf);refine bD e1 ?_;(conv=>whnf);refine bD e2 ?_;(conv=>whnf);refine bD e3 ?_;(conv=>whnf);refine bD e4 ?_;(conv=>whnf);refine bD e5 ?_;(conv=>whnf);refine dy n2 ?_;(conv=>whnf);cases hF;refine⟨.inl rfl,⟨s6,trivial⟩⟩
 ·refine au.iN av Tryz.func255 rfl (by rfl) (by kernel_rfl) rfl rfl ?_
  (conv=>whnf);refine bD e0 ?_;(conv=>whnf);refine bD e1 ?_;(conv=>whnf);refine bD e2 ?_;(conv=>whnf);refine bD e3 ?_;(conv=>whnf);refine bD e4 ?_;(conv=>whnf);refine bD e5 ?_;(conv=>whnf);refine dy n2 ?_;(conv=>whnf);cases hF;refine⟨.inl rfl,⟨s6,trivial⟩⟩
 ·refine au.iN av Tryz.func255 rfl (by rfl) (by kernel_rfl) rfl rfl ?_
  (conv=>whnf);refine bD e0 ?_;(conv=>whnf);refine bD e1 ?_;(conv=>whnf);refine bD e2 ?_;(conv=>whnf);refine bD e3 ?_;(conv=>whnf);refine bD e4 ?_;(conv=>whnf);refine bD e5 ?_;(conv=>whnf);refine dy n2 ?_;(conv=>whnf);replace hF:(match (ak==4)&&(bk==4) with|false=>some (zV,cK)|true=>match Nat.ble (at_.size+bt.size) 9223372036854775807 with|false=>none|true=>match decide (((at_++bt).size:Int)>64) with|true=>some (zV,lQ)|false=>some (Vl.mk 4 0 (at_++bt) [] none,(⟨#[]⟩:ByteArray)))=some R:=hF;refine bK (aG _) av (by kernel_rfl) 2 [0,1,4,6,50,51,52] [4,1000000000] (fun j (_:Unit)=>[.p (.s op),.p (.sl 5 ([.agg [.i .i64 ak,.i .i64 an,.s at_,.sl 5 (bz aa),eP cS ac],.agg [.i .i64 bk,.i .i64 bn,.s bt,.sl 5 (bz ba),eP cS bc]])),.ptr 4 0,.p (.i .i64 4),.p (.sl 5 ([.agg [.i .i64 ak,.i .i64 an,.s at_,.sl 5 (bz aa),eP cS ac],.agg [.i .i64 bk,.i .i64 bn,.s bt,.sl 5 (bz ba),eP cS bc]])),.p (.i .i64 2),.p (.i .i64 (ix j))]) (fun _ _=>[.cells [.p (.i .i64 0),.p (.i .i64 0),.p (.s ⟨#[]⟩),.cx,.p .gm],.store 139 false vS z.1 5 (cD bz z.2)]) (fun j _=>(1<=j->(ak==4)=true)/\(2<=j->(bk==4)=true)) () ⟨rfl,rfl,rfl,rfl⟩ ⟨by omega,by omega⟩ ?_;rintro j _ hj ⟨q1,q2⟩;(conv=>whnf);refine ai ?_ ?_<;>intro h1<;>conv=>whnf
  ·have hj1:j<2:=cu h1 rfl hj (by omega)
   have hj2:j=0\/j=1:=by omega
   rcases hj2 with rfl|rfl
   ·refine bM (x:=.agg [.i .i64 ak,.i .i64 an,.s at_,.sl 5 (bz aa),eP cS ac]) rfl (by omega) ?_
    (conv=>whnf);refine ai ?_ ?_<;>intro g1<;>conv=>whnf
    ·rw[show((ak==4)&&(bk==4))=false from(by rw[show(ak==4)=false by simpa using g1];rfl)]at hF
     cases hF;refine⟨.inl rfl,⟨s6,trivial⟩⟩
    ·exact⟨by omega,(),⟨rfl,rfl,rfl,rfl⟩,⟨fun _=>(by simpa using g1),by omega⟩⟩
   ·refine bM (x:=.agg [.i .i64 bk,.i .i64 bn,.s bt,.sl 5 (bz ba),eP cS bc]) rfl (by omega) ?_
    (conv=>whnf);refine ai ?_ ?_<;>intro g1<;>conv=>whnf
    ·rw[show((ak==4)&&(bk==4))=false from(by rw[show(bk==4)=false by simpa using g1,Bool.and_false])]at hF
     cases hF;refine⟨.inl rfl,⟨s6,trivial⟩⟩
    ·exact⟨by omega,(),⟨rfl,rfl,rfl,rfl⟩,⟨fun _=>q1 (by omega),fun _=>(by simpa using g1)⟩⟩
  have hj1:j=2:=cv h1 rfl hj (by omega);subst hj1;rw[q1 (by omega),q2 (by omega)]at hF
  try dsimp only at hF
  (conv=>whnf);refine bD n1 ?_;(conv=>whnf);refine dy n2 ?_;(conv=>whnf);refine aq (i:=0) (x:=.agg [.i .i64 ak,.i .i64 an,.s at_,.sl 5 (bz aa),eP cS ac]) rfl ?_;(conv=>whnf);refine aq (i:=1) (x:=.agg [.i .i64 bk,.i .i64 bn,.s bt,.sl 5 (bz ba),eP cS bc]) rfl ?_;(conv=>whnf)
  cases hsz:Nat.ble (at_.size+bt.size) 9223372036854775807 with
  |false=>rw[hsz]at hF;cases hF
  |true=>
  rw[hsz]at hF;refine ag (Nat.le_of_ble_eq_true hsz) ?_;(conv=>whnf);refine ag (.inl (by kernel_rfl)) ?_;(conv=>whnf);refine ai ?_ ?_<;>intro h2<;>conv=>whnf
  ·rw[show decide (((at_++bt).size:Int)>64)=true from h2]at hF
   cases hF;refine⟨.inl rfl,⟨s6,trivial⟩⟩
  ·rw[show decide (((at_++bt).size:Int)>64)=false from h2]at hF
   cases hF;refine⟨.inl rfl,⟨s6,trivial⟩⟩
 ·refine au.iN av Tryz.func255 rfl (by rfl) (by kernel_rfl) rfl rfl ?_
  (conv=>whnf);refine bD e0 ?_;(conv=>whnf);refine bD e1 ?_;(conv=>whnf);refine bD e2 ?_;(conv=>whnf);refine bD e3 ?_;(conv=>whnf);refine bD e4 ?_;(conv=>whnf);refine bD e5 ?_;(conv=>whnf);refine dy n2 ?_;(conv=>whnf);cases hF;refine⟨.inl rfl,⟨s6,trivial⟩⟩
theorem Ob (z:aZ (List Vl)) (op:ByteArray) (e0:cT op 43=false) (e1:cT op 45=false) (e2:cT op 42=false) (e3:cT op 47=false) (e4:cT op 37=false) (e5:cT op 60=false) (e6:cT op 61=false) (n2:(op.toList==GK.toList)=false) (xs:List Vl) (R:Vl×ByteArray) (hF:er op xs=some R):
 au Tryz.prog 255 [.p (.s op),.p (.sl 5 (bz xs))] [(1000000000,pO z)] (.cI [.p (eV R.1),.p (.s R.2)]) [(1000000000,pO z)]:=by
 have e:mV op=false:=by
  unfold mV;rw[e0,e1,e2,e3,e4,e5];rfl
 unfold er at hF;rw[e,e6,n2]at hF;unfold pO
 cases n1:op.toList==IE.toList with
 |false=>
  rw[n1]at hF;cases hF;refine au.iN av Tryz.func255 rfl (by rfl) (by kernel_rfl) rfl rfl ?_;(conv=>whnf);refine bD e0 ?_;(conv=>whnf);refine bD e1 ?_;(conv=>whnf);refine bD e2 ?_;(conv=>whnf);refine bD e3 ?_;(conv=>whnf);refine bD e4 ?_;(conv=>whnf);refine bD e5 ?_;(conv=>whnf);refine bD n2 ?_;(conv=>whnf);refine bD n1 ?_;(conv=>whnf);refine bD e6 ?_;(conv=>whnf);refine⟨.inl rfl,⟨s6,trivial⟩⟩
 |true=>
  rw[n1]at hF;rcases xs with _|⟨⟨ak,an,at_,aa,ac⟩,_|⟨d,xs⟩⟩
  ·refine au.iN av Tryz.func255 rfl (by rfl) (by kernel_rfl) rfl rfl ?_
   (conv=>whnf);refine bD e0 ?_;(conv=>whnf);refine bD e1 ?_;(conv=>whnf);refine bD e2 ?_;(conv=>whnf);refine bD e3 ?_;(conv=>whnf);refine bD e4 ?_;(conv=>whnf);refine bD e5 ?_;(conv=>whnf);refine bD n2 ?_;(conv=>whnf);refine dy n1 ?_;(conv=>whnf);cases hF;refine⟨.inl rfl,⟨s6,trivial⟩⟩
  ·replace hF:(match ak==3 with|false=>some (zV,cK)|true=>some (vI 3 (bI (an==0)),(⟨#[]⟩:ByteArray)))=some R:=hF
   have hbl:=qT (an==0);refine au.iN av Tryz.func255 rfl (by rfl) (by kernel_rfl) rfl rfl ?_;(conv=>whnf);refine bD e0 ?_;(conv=>whnf);refine bD e1 ?_;(conv=>whnf);refine bD e2 ?_;(conv=>whnf);refine bD e3 ?_;(conv=>whnf);refine bD e4 ?_;(conv=>whnf);refine bD e5 ?_;(conv=>whnf);refine bD n2 ?_;(conv=>whnf);refine dy n1 ?_;(conv=>whnf);refine bK (aG _) av (by kernel_rfl) 1 [0,1,4,6,50,51,52] [4,1000000000] (fun j (_:Unit)=>[.p (.s op),.p (.sl 5 ([.agg [.i .i64 ak,.i .i64 an,.s at_,.sl 5 (bz aa),eP cS ac]])),.ptr 4 0,.p (.i .i64 3),.p (.sl 5 ([.agg [.i .i64 ak,.i .i64 an,.s at_,.sl 5 (bz aa),eP cS ac]])),.p (.i .i64 1),.p (.i .i64 (ix j))]) (fun _ _=>[.cells [.p (.i .i64 0),.p (.i .i64 0),.p (.s ⟨#[]⟩),.cx,.p .gm],.store 139 false vS z.1 5 (cD bz z.2)]) (fun j _=>(1<=j->(ak==3)=true)) () ⟨rfl,rfl,rfl,rfl⟩ (by omega) ?_;rintro j _ hj q1;(conv=>whnf);refine ai ?_ ?_<;>intro h1<;>conv=>whnf
   ·have hj1:j<1:=cu h1 rfl hj (by omega)
    have hj2:j=0:=by omega
    subst hj2;refine bM (x:=.agg [.i .i64 ak,.i .i64 an,.s at_,.sl 5 (bz aa),eP cS ac]) rfl (by omega) ?_;(conv=>whnf);refine ai ?_ ?_<;>intro g1<;>conv=>whnf
    ·rw[show(ak==3)=false by simpa using g1]at hF
     cases hF;refine⟨.inl rfl,⟨s6,trivial⟩⟩
    ·exact⟨by omega,(),⟨rfl,rfl,rfl,rfl⟩,fun _=>(by simpa using g1)⟩
   have hj1:j=1:=cv h1 rfl hj (by omega);subst hj1;rw[q1 (by omega)]at hF;cases hF;(conv=>whnf);refine dy n1 ?_;(conv=>whnf);refine aq (i:=0) (x:=.agg [.i .i64 ak,.i .i64 an,.s at_,.sl 5 (bz aa),eP cS ac]) rfl ?_;(conv=>whnf);refine kK hbl ?_;(conv=>whnf);refine⟨.inl rfl,⟨s6,trivial⟩⟩
  ·refine au.iN av Tryz.func255 rfl (by rfl) (by kernel_rfl) rfl rfl ?_
   (conv=>whnf);refine bD e0 ?_;(conv=>whnf);refine bD e1 ?_;(conv=>whnf);refine bD e2 ?_;(conv=>whnf);refine bD e3 ?_;(conv=>whnf);refine bD e4 ?_;(conv=>whnf);refine bD e5 ?_;(conv=>whnf);refine bD n2 ?_;(conv=>whnf);refine dy n1 ?_;(conv=>whnf);cases hF;refine⟨.inl rfl,⟨s6,trivial⟩⟩
theorem ue (z:aZ (List Vl)) (op:ByteArray) (xs:List Vl) (R:Vl×ByteArray) (hl:xs.length<=2000001) (hF:er op xs=some R):
 au Tryz.prog 255 [.p (.s op),.p (.sl 5 (bz xs))] [(1000000000,pO z)] (.cI [.p (eV R.1),.p (.s R.2)]) [(1000000000,pO z)]:=by
 cases e:mV op with
 |true=>exact Q3 z op e xs R hl hF
 |false=>
  cases e6:cT op 61 with
  |true=>
   have h:=e;unfold mV at h;simp only[Bool.or_eq_false_iff]at h;obtain⟨⟨⟨⟨⟨e0,e1⟩,e2⟩,e3⟩,e4⟩,e5⟩:=h;exact P8 z op e0 e1 e2 e3 e4 e5 e6 xs R hF
  |false=>
   have h:=e;unfold mV at h;simp only[Bool.or_eq_false_iff]at h;obtain⟨⟨⟨⟨⟨e0,e1⟩,e2⟩,e3⟩,e4⟩,e5⟩:=h
   cases n2:op.toList==GK.toList with
   |true=>exact Qc z op e0 e1 e2 e3 e4 e5 e6 n2 xs R hF
   |false=>exact Ob z op e0 e1 e2 e3 e4 e5 e6 n2 xs R hF
def Rs (R:Bool×(aZ Sc×Option Nat)):AV:=.cI [.p (eP sS R.2.2),.p (.b R.1)]
noncomputable def RV:Nat->Option TI:=hint (iX Tryz.prog) 218 [1000023]
theorem OR:bB Tryz.prog RV:=(aG Tryz.prog).hint _ _
theorem tw:∀(n:Nat) (p:TR.Pt) (v:Vl) (z:aZ Sc×Option Nat) (R:Bool×(aZ Sc×Option Nat)),mW n p v z=some R->
 au Tryz.prog 236 [.p (TR.eP p),.p (eV v),.p (eP sS z.2)] [(1000000000,Ay sS z.1)] (Rs R) [(1000000000,Ay sS R.2.1)]
 |0,_,_,_,_,hF=>by cases hF
 |n+1,p,v,z,R,hF=>by
  have ih:=tw n;obtain⟨pk,pn,pt,pa⟩:=p;obtain⟨vk,vn,vt,va,vc⟩:=v;obtain⟨⟨nx,M⟩,s⟩:=z;unfold mW at hF;dsimp only[TR.Pt.kind,TR.Pt.text,TR.Pt.args,OZ,Vl.kind,Vl.num,Vl.text,Vl.args]at hF;rw[TR.eP,eV];unfold Ay Rs at *;dsimp only at *;refine au.intro OR av Tryz.func236 rfl (by rfl) (by kernel_rfl) (by show 3<=_;decide) rfl ?_;(conv=>whnf);refine ai ?_ ?_<;>intro h1<;>conv=>whnf
  ·rw[show(pk==1)=true from h1]at hF
   cases hF;cases s
   all_goals
    (conv=>whnf);refine⟨.inl rfl,⟨s6,trivial⟩⟩
  rw[show(pk==1)=false from h1]at hF;dsimp only at hF;refine ai ?_ ?_<;>intro h2<;>conv=>whnf
  ·rw[show(pk==2)=true from h2]at hF
   cases hF;cases s
   all_goals
    (conv=>whnf);refine⟨.inl rfl,⟨s6,trivial⟩⟩
  rw[show(pk==2)=false from h2]at hF;dsimp only at hF;refine ai ?_ ?_<;>intro h3<;>conv=>whnf
  ·rw[show(pk==3)=true from h3]at hF
   cases hF;refine ai ?_ ?_<;>intro g1<;>conv=>whnf
   ·rw[show(vk==2)=true from g1,Bool.true_and]
    refine ag (.inl (by kernel_rfl)) ?_;(conv=>whnf);cases s
    all_goals
     (conv=>whnf);refine⟨.inl rfl,⟨s6,trivial⟩⟩
   ·rw[show(vk==2)=false from g1,Bool.false_and]
    refine ag (.inl (by kernel_rfl)) ?_;(conv=>whnf);cases s
    all_goals
     (conv=>whnf);refine⟨.inl rfl,⟨s6,trivial⟩⟩
  rw[show(pk==3)=false from h3]at hF;dsimp only at hF;refine ai ?_ ?_<;>intro h4<;>conv=>whnf
  ·rw[show(pk==4)=true from h4]at hF
   cases hF;refine ai ?_ ?_<;>intro g1<;>conv=>whnf
   ·rw[show(vk==3)=true from g1,Bool.true_and]
    refine ag (.inl (by kernel_rfl)) ?_;(conv=>whnf);cases s
    all_goals
     (conv=>whnf);refine⟨.inl rfl,⟨s6,trivial⟩⟩
   ·rw[show(vk==3)=false from g1,Bool.false_and]
    refine ag (.inl (by kernel_rfl)) ?_;(conv=>whnf);cases s
    all_goals
     (conv=>whnf);refine⟨.inl rfl,⟨s6,trivial⟩⟩
  rw[show(pk==4)=false from h4]at hF;dsimp only at hF;refine ai ?_ ?_<;>intro h5<;>conv=>whnf
  ·rw[show(pk==5)=true from h5]at hF
   cases hF;refine ai ?_ ?_<;>intro g1<;>conv=>whnf
   ·rw[show(vk==4)=true from g1,Bool.true_and]
    refine ag (.inl (by kernel_rfl)) ?_;(conv=>whnf);cases s
    all_goals
     (conv=>whnf);refine⟨.inl rfl,⟨s6,trivial⟩⟩
   ·rw[show(vk==4)=false from g1,Bool.false_and]
    refine ag (.inl (by kernel_rfl)) ?_;(conv=>whnf);cases s
    all_goals
     (conv=>whnf);refine⟨.inl rfl,⟨s6,trivial⟩⟩
  rw[show(pk==5)=false from h5]at hF;dsimp only at hF;refine ai ?_ ?_<;>intro h6<;>conv=>whnf
  case refine_2=>
   rw[show(pk==6)=false from h6]at hF;cases hF;cases s
   all_goals
    (conv=>whnf);refine⟨.inl rfl,⟨s6,trivial⟩⟩
  rw[show(pk==6)=true from h6]at hF;dsimp only at hF;refine ai ?_ ?_<;>intro g1<;>conv=>whnf
  ·rw[show(!(vk==5)||!(kB vt pt)||!(Nat.beq va.length pa.length))=true from(by rw[show(!(vk==5))=true from g1];rfl)]at hF
   cases hF;cases s
   all_goals
    (conv=>whnf);refine⟨.inl rfl,⟨s6,trivial⟩⟩
  have g1:(!(vk==5))=false:=g1;refine ai ?_ ?_<;>intro g2<;>conv=>whnf
  ·rw[show(!(vk==5)||!(kB vt pt)||!(Nat.beq va.length pa.length))=true from(by rw[g1,show(!(kB vt pt))=true from g2];rfl)]at hF
   cases hF;cases s
   all_goals
    (conv=>whnf);refine⟨.inl rfl,⟨s6,trivial⟩⟩
  have g2:(!(kB vt pt))=false:=g2;have hvl:(bz va).length=va.length:=by rw[aR];simp
  have hpl:(TR.pF pa).length=pa.length:=TR.iq pa;refine ai ?_ ?_<;>intro g3<;>conv=>whnf
  ·rw[show(!(vk==5)||!(kB vt pt)||!(Nat.beq va.length pa.length))=true from(by rw[g1,g2,show Nat.beq va.length pa.length=false from by cases hq:Nat.beq va.length pa.length with|false=>rfl|true=>have:=Nat.eq_of_beq_eq_true hq;rw[hvl,hpl,this]at g3;simp at g3];rfl)]at hF
   cases hF;cases s
   all_goals
    (conv=>whnf);refine⟨.inl rfl,⟨s6,trivial⟩⟩
  have g3:Nat.beq va.length pa.length=true:=by
   have:va.length=pa.length:=by rw[hvl,hpl]at g3;simp at g3;omega
   rw[this];exact Nat.beq_refl _
  rw[show(!(vk==5)||!(kB vt pt)||!(Nat.beq va.length pa.length))=false by rw[g1,g2,g3];rfl]at hF;dsimp only at hF
  cases hll:Nat.ble pa.length 2000000 with
  |false=>rw[hll]at hF;cases hF
  |true=>
   rw[hll]at hF;dsimp only at hF;have hll:=Nat.le_of_ble_eq_true hll;have hvp:=Nat.eq_of_beq_eq_true g3;refine bK (aG _) av (by kernel_rfl) pa.length [2,3,4,86,87,88] [3,4,1000000000] (fun j (z:aZ Sc×Option Nat)=>[.p (eP sS z.2),.ptr 3 0,.ptr 4 0,.p (.sl 4 (TR.pF pa)),.p (.i .i64 (TR.pF pa).length),.p (.i .i64 (ix j))]) (fun _ z=>[.cells [.p (.i .i64 pk),.p (.i .i64 pn),.p (.s pt),.p (.sl 4 (TR.pF pa))],.cells [.p (.i .i64 vk),.p (.i .i64 vn),.p (.s vt),.p (.sl 5 (bz va)),.p (eP cS vc)],.store 218 true sS z.1.1 7 (cD (Px sS) z.1.2)]) (fun j z=>qA (mW n) (pa.drop j) (va.drop j) z=some R) ((nx,M),s) ⟨rfl,rfl,rfl,rfl⟩ hF ?_;rintro j ⟨⟨nx,M⟩,s⟩ hj hQ;(conv=>whnf);refine ai ?_ ?_<;>intro h1<;>conv=>whnf
   ·have hj1:=cu h1 (by rw[hpl]) hj (by omega)
    obtain⟨a,ha⟩:∃a,pa[j]?=some a:=⟨_,List.getElem?_eq_getElem hj1⟩
    obtain⟨u,hu⟩:∃u,va[j]?=some u:=⟨_,List.getElem?_eq_getElem (by omega)⟩
    rw[drop_cons ha,drop_cons hu,qA]at hQ
    cases hm:mW n a u ((nx,M),s) with
    |none=>rw[hm]at hQ;cases hQ
    |some q=>
     rw[hm]at hQ;have hi:=ih a u ((nx,M),s) q hm;obtain⟨ak,an,at_,aa⟩:=a;obtain⟨uk,un,ut,ua,uc⟩:=u;obtain⟨b,⟨nx2,M2⟩,s2⟩:=q;rw[TR.eP,eV]at hi;dsimp only at hi hQ;cases s
     all_goals
      cases s2 with
      |none=>
       refine bM (x:=.agg [.i .i64 ak,.i .i64 an,.s at_,.sl 4 (TR.pF aa)]) (TR.tJ ha) (by omega) ?_;(conv=>whnf);refine bM (x:=.agg [.i .i64 uk,.i .i64 un,.s ut,.sl 5 (bz ua),eP cS uc]) (by rw[aR];simp[hu,eV]) (by omega) ?_;(conv=>whnf);refine bh [1000000000] 400 hi ?_;(conv=>whnf)
       cases b with
       |false=>
        cases hQ;(conv=>whnf);refine ag (.inl (by kernel_rfl)) ?_;(conv=>whnf);refine⟨.inl rfl,⟨s6,trivial⟩⟩
       |true=>
        (conv=>whnf);refine ag (.inl (by kernel_rfl)) ?_;(conv=>whnf);exact⟨hj1,((nx2,M2),none),⟨rfl,rfl,rfl,rfl⟩,hQ⟩
      |some s2=>
       refine bM (x:=.agg [.i .i64 ak,.i .i64 an,.s at_,.sl 4 (TR.pF aa)]) (TR.tJ ha) (by omega) ?_;(conv=>whnf);refine bM (x:=.agg [.i .i64 uk,.i .i64 un,.s ut,.sl 5 (bz ua),eP cS uc]) (by rw[aR];simp[hu,eV]) (by omega) ?_;(conv=>whnf);refine bh [1000000000] 400 hi ?_;(conv=>whnf)
       cases b with
       |false=>
        cases hQ;(conv=>whnf);refine ag (.inl (by kernel_rfl)) ?_;(conv=>whnf);refine⟨.inl rfl,⟨s6,trivial⟩⟩
       |true=>
        (conv=>whnf);refine ag (.inl (by kernel_rfl)) ?_;(conv=>whnf);exact⟨hj1,((nx2,M2),(some s2)),⟨rfl,rfl,rfl,rfl⟩,hQ⟩
   ·have h1:=cv h1 (by rw[hpl]) hj (by omega)
    subst h1;rw[List.drop_length]at hQ
    cases s with
    |none=>
     cases hQ;(conv=>whnf);refine⟨.inl rfl,⟨s6,trivial⟩⟩
    |some s=>
     cases hQ;(conv=>whnf);refine⟨.inl rfl,⟨s6,trivial⟩⟩
theorem Il {l:List Ar} {j:Nat} {a:Ar} {k n:Int} {t:ByteArray} {xs:List TR.Pt} (h:l[j]?=some a) (hp:a.pat=.mk k n t xs):(FY l)[j]?=some (.agg [.i .i64 k,.i .i64 n,.s t,.sl 4 (TR.pF xs),.bH nS a.body]):=by
 unfold FY;rw[List.getElem?_map,h];obtain⟨p,b⟩:=a;dsimp only at hp;subst hp;rfl
theorem Bx (K:Ks) (zr:aZ Rn) (k:Nat) (r:Rn) (f:Fr) (v:Vl) (hr:aK k zr.2=some r) (S:Ss) (R:Bool×Ss×Rn) (hF:nL K S r f v=some R):
 au Tryz.prog 232 [.p (.bH rS k),.p (.agg (ey f)),.p (eV v)] (hA K S zr) (.p (.b R.1)) (hA K R.2.1 (zr.1,match R.1 with|true=>bf k R.2.2 zr.2|false=>zr.2)):=by
 have hev:=fun j s=>jL zr k j f s r hr;have hmt:=fun p=>tw (TR.wP p) p;obtain⟨f1,f2,f3,f4,f5⟩:=f;obtain⟨vk,vn,vt,va,vc⟩:=v;obtain⟨So,Ssc,Sv,Sf,Sc0,Sg0⟩:=S;unfold nL cW at hF;dsimp only at hF
 cases f1 with
 |none=>cases hF
 |some kn=>
  dsimp only at hF
  cases hn:aK kn K.n.2 with
  |none=>rw[hn]at hF;cases hF
  |some n=>
   rw[hn]at hF;dsimp only at hF
   cases hal:uS K n with
   |none=>rw[hal]at hF;cases hF
   |some l=>
    rw[hal]at hF;dsimp only at hF;obtain⟨n1,n2,n3,n4,n5,n6,n7,n8,n9⟩:=n;unfold hA gW Ef iZ yO Mb Ay pO J3 kQ at *;unfold ey at *;dsimp only at *;unfold uS at hal;dsimp only at hal;rw[eV]
    cases n6 with
    |none=>
     cases hal;cases hF;refine au.iN av Tryz.func232 rfl (by rfl) (by kernel_rfl) rfl rfl ?_;(conv=>whnf);refine bw dm hn rfl ?_;(conv=>whnf);refine bK (aG _) av (by kernel_rfl) 0 [15,16,17] iA (fun j (_:Unit)=>[.p .tf,.p (.i .i64 0),.p (.i .i64 (ix j))]) (fun _ _=>An K ⟨So,Ssc,Sv,Sf,Sc0,Sg0⟩ zr) (fun _ _=>True) () ⟨rfl,rfl,rfl,rfl⟩ trivial ?_;rintro j _ hj -;(conv=>whnf);refine ai ?_ ?_<;>intro h1<;>conv=>whnf
     ·have:j=0:=by omega
      subst this;cases h1
     ·refine⟨.inl rfl,by(repeat refine⟨s6,?_⟩);trivial⟩
    |some q=>
     obtain⟨q1,q2⟩:=q;dsimp only at hal
     cases hlk:aK q1 K.b.2 with
     |none=>rw[hlk]at hal;cases hal
     |some L=>
      rw[hlk]at hal;dsimp only at hal
      cases hg:Nat.ble q2 L.length&&Nat.ble q2 2000000 with
      |false=>rw[hg]at hal;cases hal
      |true=>
       rw[hg]at hal;cases hal;rw[Bool.and_eq_true]at hg;have hg1:=Nat.le_of_ble_eq_true hg.1;have hg2:=Nat.le_of_ble_eq_true hg.2;refine au.iN av Tryz.func232 rfl (by rfl) (by kernel_rfl) rfl rfl ?_;(conv=>whnf);refine bw dm hn rfl ?_;(conv=>whnf);refine bK (aG _) av (by kernel_rfl) q2 [0,4,5,15,16,17] (4::5::iA) (fun j (_:aZ Sc)=>[.p (.bH rS k),.ptr 4 0,.ptr 5 0,.p (.kE bS q1 q2),.p (.i .i64 q2),.p (.i .i64 (ix j))]) (fun _ s=>.cells [.p (.bH nS kn),.p (eP sS f2),.p (nq f3),.p (.i .i64 f4),.p (.b f5)]::.cells [.p (.i .i64 vk),.p (.i .i64 vn),.p (.s vt),.p (.sl 5 (bz va)),.p (eP cS vc)]::An K ⟨So,s,Sv,Sf,Sc0,Sg0⟩ zr) (fun j s=>kV ⟨some kn,f2,f3,f4,f5⟩ (.mk vk vn vt va vc) ((L.take q2).drop j) ⟨So,s,Sv,Sf,Sc0,Sg0⟩ r=some R) Ssc ⟨rfl,rfl,rfl,rfl⟩ hF ?_;rintro j s hj hQ;(conv=>whnf);refine ai ?_ ?_<;>intro h1<;>conv=>whnf
       ·have hj1:=cu h1 rfl hj (by omega)
        have hjl:(L.take q2)[j]?=L[j]?:=List.getElem?_take_of_lt hj1;obtain⟨a,ha⟩:∃a,L[j]?=some a:=⟨_,List.getElem?_eq_getElem (by omega)⟩
        rw[drop_cons (hjl.trans ha),kV]at hQ;have hji:(ix j).toNat=j:=by rw[kR (by omega)];simp
        refine ag ⟨by rw[kR (by omega)];omega,by rw[hji];exact hj1⟩ ?_;rw[hji]
        cases hm:mW (TR.wP a.pat) a.pat (.mk vk vn vt va vc) (s,f2) with
        |none=>dsimp only at hQ;rw[hm]at hQ;cases hQ
        |some q=>
         dsimp only at hQ;rw[hm]at hQ;have hmt:=hmt a.pat (.mk vk vn vt va vc) (s,f2) q hm;obtain⟨⟨ak,an,at_,aa⟩,ab⟩:=a;obtain⟨b,s2,w⟩:=q;have hev:=hev ab w;dsimp only at hmt hQ;rw[TR.eP,eV]at hmt;unfold Rs at hmt;dsimp only at hmt
         cases b with
         |false=>
          cases w
          all_goals
           (conv=>whnf);refine ag ⟨rfl,by decide,.inr rfl⟩ ?_;refine⟨_,aj hlk,?_⟩;refine aq (i:=j) (x:=.agg [.i .i64 ak,.i .i64 an,.s at_,.sl 4 (TR.pF aa),.bH nS ab]) (Il ha rfl) ?_;(conv=>whnf);refine bh [1000000005] 400 hmt ?_;(conv=>whnf);exact⟨hj1,s2,⟨rfl,rfl,rfl,rfl⟩,hQ⟩
         |true=>
          cases hQ;cases w
          all_goals
           (conv=>whnf);refine ag ⟨rfl,by decide,.inr rfl⟩ ?_;refine⟨_,aj hlk,?_⟩;refine aq (i:=j) (x:=.agg [.i .i64 ak,.i .i64 an,.s at_,.sl 4 (TR.pF aa),.bH nS ab]) (Il ha rfl) ?_;(conv=>whnf);refine bh [1000000005] 400 hmt ?_;(conv=>whnf);refine bh [1000000000] 400 hev ?_;(conv=>whnf);refine⟨.inl rfl,by(repeat refine⟨s6,?_⟩);trivial⟩
       ·have h1:=cv h1 rfl hj (by omega)
        subst h1;rw[List.drop_eq_nil_of_le (by rw[List.length_take];omega)]at hQ;cases hQ;refine⟨.inl rfl,by(repeat refine⟨s6,?_⟩);trivial⟩
end MN
end
