/- Contracts, and the law, for every input. No conditions. -/
import Derived.Test.YtdmopjgjhfhfdaaGreatDoorRLH
import Derived.Test.YtdmopjgjhfhfdaaGreatDoorTR4
import Derived.Test.YtdmopjgjhfhfdaaGreatDoorTR7
import Derived.Test.YtdmopjgjhfhfdaaGreatDoorChecked
import Derived.Tactics
import Derived.Tactics2
import Derived.Defers
import Derived.Recover
import Derived.Test.YtdmopjgjhfhfdaaGreatDoorMN5
import Derived.Test.YtdmopjgjhfhfdaaGreatDoorAMRngD
import Derived.Test.YtdmopjgjhfhfdaaGreatDoorTR1
import Derived.Lib.ParseIntB
set_option linter.all false
section
open Go Go.AM Go.Proofs TK
set_option maxRecDepth 100000
namespace MN
theorem Gd {K:Ks} {z:Ns} {mk:Mk} {cs:List Nat} (hf:mk.funs=z.fu) (hu:Fu z cs) (ha:K.a=z.a) {i:Nat} (hi:i<cs.length):zD K mk i=cs[i]?:=by
 unfold zD;rw[hf,ha];unfold Fu at hu
 cases hq:z.fu with
 |none=>rw[hq]at hu;cases hu;simp at hi
 |some q=>
  rw[hq]at hu;obtain⟨h1,h2,_⟩:=hu;dsimp only;rw[show Nat.blt i q.2=true from Nat.ble_eq_true_of_le (by omega)];dsimp only;rw[h1]
theorem C6 {K:Ks} {mk:Mk} {ims:List Im} (h:Bk K.im.2 (fun _=>True) mk.impls ims) (hl:ims.length≤2000000):uS K mk=some ims:=by
 unfold uS
 cases hq:mk.impls with
 |none=>rw[hq]at h;cases h;rfl
 |some q=>
  rw[hq]at h;obtain⟨h1,h2,_⟩:=h;dsimp only;rw[h1];dsimp only;rw[nX (by omega) (by omega),h2,List.take_length]
section
variable {F:List TR.Ex} {z w:Ns} {K1 K2:Ks}
theorem Ct (tr ty name:ByteArray):∀{ps:List (TR.w6×Nat)} {l m:List Im},F2 (IR F z 0 K1.mf.2) ps l→F2 (IR F w 0 K2.mf.2) ps m→(∀x∈ps,∀f∈x.1.funcs,Eh (lF f).2)→∃o o',qM K1 tr ty name l=some o∧qM K2 tr ty name m=some o'∧O2 (OQ (Mn F z w)) o o'
 | [],[],[],_,_,_=>⟨none,none,rfl,rfl,trivial⟩
 |p::ps,x::l,y::m,h1,h2,hs=>by
  obtain⟨⟨x1,x2,_,es,x3,x4⟩,h1⟩:=h1;obtain⟨⟨y1,y2,_,es',y3,y4⟩,h2⟩:=h2;rw[qM,qM,x1,x2,y1,y2]
  cases jV p.1.tr tr&&jV p.1.fo ty with
  |true=>
   dsimp only;rw[x3,y3];refine⟨_,_,rfl,rfl,x4.two y4 (wo _ _ _ (fun f hf=>?_) fun f hf=>by cases hf) name⟩;obtain⟨g,hg,rfl⟩:=List.mem_map.1 hf;exact hs p List.mem_cons_self g hg
  |false=>exact Ct tr ty name h1 h2 fun x hx=>hs x (List.mem_cons_of_mem _ hx)
end
theorem D0:∀{l:List TR.w6} {o:Nat} {x:TR.w6×Nat},x∈zE l o→x.1∈l
 |y::l,o,x,h=>by
  rw[zE]at h;rcases List.mem_cons.1 h with rfl|h
  ·exact List.mem_cons_self
  ·exact List.mem_cons_of_mem _ (D0 h)
theorem I6 {p:TR.oH} (h:Nb p) {K1 K2:Ks} {m1 m2:Nat} (h1:CB p K1 m1) (h2:CB p K2 m2) (X:List (Nat×Cl)) {rt:Nat→Prop} (hr:LB K1 m1 rt):∃NR,KR K1 K2 ⟨Pn (kD p),X,rt⟩ NR m1 m2:=by
 obtain⟨z,mk,cs,es,ims,fs,acs,n1,a1,b1,k1,f1,u1,l1,e1,e1',t1,i1,il1,ir1,g1,g1',c1,c1'⟩:=h1.ex;obtain⟨w,mk',cs',es',ims',fs',acs',n2,a2,b2,k2,f2,u2,l2,e2,e2',t2,i2,il2,ir2,g2,g2',c2,c2'⟩:=h2.ex;subst e1';subst e2';have smf:∀f∈Lt (p.funcs.map lF) (oE p.impls).length [],Eh (f.2.1,f.2.2.1):=wo _ _ _ (fun f hf=>by obtain⟨g,hg,rfl⟩:=List.mem_map.1 hf;exact h.fu g hg) fun f hf=>by cases hf
 have sma:∀f∈Lt (p.actors.map lA) ((oE p.impls).length+(iV (p.funcs.map lF)).length) [],Eh (f.2.1,f.2.2.1):=wo _ _ _ (fun f hf=>by obtain⟨g,hg,rfl⟩:=List.mem_map.1 hf;exact h.ac g hg) fun f hf=>by cases hf
 have smi:∀x∈zE p.impls 0,∀f∈x.1.funcs,Eh (lF f).2:=fun x hx f hf=>h.im x.1 (D0 hx) f hf;have lc1:cs.length=(kD p).length:=l1.len;have lc2:cs'.length=(kD p).length:=l2.len;have lb1:gA mk.funs=(kD p).length:=by rw[f1,←lc1];exact Bk.len u1
 have lb2:gA mk'.funs=(kD p).length:=by rw[f2,←lc2];exact Bk.len u2
 have fns:∀(i:Nat) (e:TR.Ex),(kD p)[i]?=some e→∃c d x y,zD K1 mk i=some c∧zD K2 mk' i=some d∧aK c K1.n.2=some x∧aK d K2.n.2=some y∧ND K1 K2 ⟨Pn (kD p),X,rt⟩ (Mn (kD p) z w) x y∧0<gA x.args∧x.free=TR.ng e:=by
  intro i e hi;obtain⟨hfn,hw⟩:=LG h e (List.mem_of_getElem? hi);have hlt:=(List.getElem?_eq_some_iff.1 hi).1;obtain⟨c,q1,q2⟩:=kf.get l1 hi;obtain⟨d,r1,r2⟩:=kf.get l2 hi;obtain⟨x,y,s1,s2,s3,s4,s5⟩:=C7 hr (X:=X) n1 a1 b1 n2 a2 b2 hw q2 r2;refine⟨c,d,x,y,(Gd f1 u1 a1 (by omega)).trans q1,(Gd f2 u2 a2 (by omega)).trans r1,s1,s2,s3,?_,(s4.fn hfn).1⟩;rw[s5];unfold oP at hfn;rw[Bool.and_eq_true,Bool.not_eq_true']at hfn;have:=hfn.2
  cases hl:e.args.length with
  |zero=>rw[hl]at this;cases this
  |succ k=>omega
 refine⟨Mn (kD p) z w,⟨fun a b ⟨e,o,he,x,y⟩=>?_,⟨mk,mk',k1,k2,?_,?_,⟨acs,acs',c1,c2,fun name=>c1'.two c2' sma name⟩,⟨_,e1,e2⟩⟩,?_⟩⟩
 ·obtain⟨p',q',s1,s2,s3,_⟩:=C7 hr (X:=X) n1 a1 b1 n2 a2 b2 he x y
  exact⟨p',q',s1,s2,s3⟩
 ·rintro n t len ⟨e,p0,p1,p2,p3⟩
  obtain⟨c,d,x,y,s1,s2,s3,s4,s5,s6,s7⟩:=fns n.toNat e p1;exact⟨p0,c,d,x,y,s1,s2,s3,s4,s5,s6,by rw[s7];exact p3⟩
 ·intro ρ name xs ys hx
  suffices hs:∃o o',ri K1 mk name xs=some o∧ri K2 mk' name ys=some o'∧O2 (OQ (Mn (kD p) z w)) o o' by
   obtain⟨o,o',q1,q2,q3⟩:=hs;refine⟨o,o',q1,q2,?_⟩
   cases o<;>cases o'
   ·trivial
   ·cases q3
   ·cases q3
   ·exact⟨q3,hr.f _ _ _ _ k1 q1⟩
  have hfind:=g1'.two g2' smf name;unfold ri;rw[g1,g2];dsimp only
  cases q1:bq name fs<;>cases q2:bq name fs'<;>rw[q1,q2]at hfind
  ·dsimp only
   rw[t1,t2];dsimp only
   cases bq name (jD p.traits []) with
   |none=>exact⟨none,none,rfl,rfl,trivial⟩
   |some tr=>
    dsimp only;rcases xs with _|⟨v,xs⟩<;>rcases ys with _|⟨u,ys⟩
    all_goals first|(cases hx;done)|skip
    ·exact⟨none,none,rfl,rfl,trivial⟩
    ·dsimp only
     have ht:Dl K1 mk v=Dl K2 mk' u∧Dl K1 mk v≠none:=by
      obtain⟨o1,_,o3,_⟩:=hx.1.o;unfold Dl;rw[e1,e2,←o1,←o3];refine⟨rfl,?_⟩
      cases v.kind==5 with
      |true=>dsimp only;cases bq v.text (mI p.datas [])<;>simp
      |false=>dsimp only;cases jV (oL v.kind) ⟨#[]⟩<;>simp
     rw[←ht.1]
     cases hty:Dl K1 mk v with
     |none=>exact absurd hty ht.2
     |some o=>
      cases o with
      |none=>exact⟨none,none,rfl,rfl,trivial⟩
      |some t=>
       dsimp only;rw[C6 i1 il1,C6 i2 il2];exact Ct tr t name ir1 ir2 smi
  ·cases hfind
  ·cases hfind
  ·exact⟨_,_,rfl,rfl,hfind⟩
 ·rintro⟨k,num,t,l⟩
  unfold wZ;dsimp only;rw[k1,k2];dsimp only;rw[lb1,lb2]
  cases hn:decide (num<0)||decide (num≥((kD p).length:Int)) with
  |true=>exact⟨_,rfl,rfl,fun e=>by cases e⟩
  |false=>
   simp only[Bool.or_eq_false_iff,decide_eq_false_iff_not]at hn;obtain⟨e,he⟩:∃e,(kD p)[num.toNat]?=some e:=⟨_,List.getElem?_eq_getElem (by omega)⟩
   obtain⟨c,d,x,y,s1,s2,s3,s4,s5,s6,s7⟩:=fns _ e he;dsimp only;rw[s1,s2];dsimp only;rw[s3,s4];dsimp only;rw[s5.free]
   cases hs:(t.size:Int)==(x.free.length:Int) with
   |false=>exact⟨_,rfl,rfl,fun e=>by cases e⟩
   |true=>
    refine⟨_,rfl,rfl,fun hb k' n' t' l' hv=>?_⟩;cases hv;have hs:=eq_of_beq hs;have hb:=(Bool.and_eq_true .. |>.mp hb).2;have hb:=eq_of_beq hb;unfold cntF Lib.countByte at hb;have:=s5.bnd.2.1;dsimp only;rw[s7]at hs this;exact⟨⟨e,by omega,he,by omega,tA t l.length (TR.ng e) 0 0 (by rw[←wD];omega) (by rw[List.drop_zero];omega)⟩,by omega⟩
end MN
end
section
open Go Go.AM Go.Proofs TK
set_option maxRecDepth 100000
namespace MN
structure HJ (S:Ss):Prop where
 s:fX S.s
 v:fX S.v
 f:fX S.f
 c:fX S.c
 n:ij S.c.2=true
theorem HJ.sb {S T:Ss} (h:HJ S) (q:HJ T) (fo:FO) (hX:∀p∈fo.X,aK p.1 S.c.2=some p.2):SB fo (fun _ _=>False) S T:=
 ⟨⟨fun _ _ x=>x.elim,fun _ _ _ _ x=>x.elim,h.c,q.c,h.n,q.n,fun p hp=>⟨hX p hp,fun _ x=>x⟩⟩,h.s,q.s,h.v,q.v,h.f,q.f⟩
theorem SB.ok {fo:FO} {ρ:Nat→Nat→Prop} {S T:Ss} (h:SB fo ρ S T):HJ S∧HJ T:=
 ⟨⟨h.s1,h.v1,h.f1,h.cr.b1,h.cr.n1⟩,⟨h.s2,h.v2,h.f2,h.cr.b2,h.cr.n2⟩⟩
structure OK (st:List Ov) (l:List mK):Prop where
 sv:∀v∈st,Dq v
 sl:st.length≤2000000
 ls:∀s∈l,Dq s.val
theorem vr {p:TR.oH} (h:Nb p) {K1 K2:Ks} {m1 m2:Nat} (h1:CB p K1 m1) (h2:CB p K2 m2) {S T:Ss} (s1:HJ S) (s2:HJ T) (name:ByteArray) {st:List Ov} (fuels:List Int) {l:List mK} (hi:OK st l):
 ∃R S' r T' q,gz K1 S m1 name st fuels l=some (R,S',r)∧gz K2 T m2 name st fuels l=some (R,T',q)∧HJ S'∧HJ T'∧∀x,R=some x→qR 0 x:=by
 obtain⟨NR,kr⟩:=I6 h h1 h2 [] (.no _ _);obtain⟨S1,T1,ρ,_,⟨e,e1,e2,e3⟩|⟨r,q,e1,e2,e3,e4,e5,e6⟩⟩:=BR kr (s1.sb s2 _ fun _ x=>(by cases x)) name st 7 hi.sv hi.sl
 ·unfold gz
  rw[e1,e2];exact⟨none,S1,none,T1,none,rfl,rfl,e3.ok.1,e3.ok.2,fun x e=>by cases e⟩
 ·obtain⟨R,S2,r2,T2,q2,ρ2,g1,g2,g3,g4⟩:=Hh kr fuels 60001 0 1000 0 l [] e3 e4 e5 e6 (by omega) (by omega) (by omega) (by omega) hi.ls ⟨fun _ h=>(by cases h),by simp⟩
  unfold gz;rw[e1,e2];dsimp only;rw[g1,g2];exact⟨R,S2,some r2,T2,some q2,rfl,rfl,g3.ok.1,g3.ok.2,g4⟩
theorem Cr {p:TR.oH} (h:Nb p) {K:Ks} {m:Nat} (h1:CB p K m) {S:Ss} (s1:HJ S) (name:ByteArray) {st:List Ov} (fuels:List Int) {l:List mK} (hi:OK st l) {x:List Ou} {S':Ss} {r':Option Rn} (hx:gz K S m name st fuels l=some (some x,S',r')):
 ∃S1 r n,lI K S m name st 7=some (S1,.ok r)∧n≤60400∧gu K n S1 r 1000 l []=some x:=by
 obtain⟨NR,kr⟩:=I6 h h1 h1 [] (.no _ _);obtain⟨S1,T1,ρ,_,⟨e,e1,e2,e3⟩|⟨r,q,e1,e2,e3,e4,e5,e6⟩⟩:=BR kr (s1.sb s1 _ fun _ x=>(by cases x)) name st 7 hi.sv hi.sl
 ·unfold gz at hx
  rw[e1]at hx;cases hx
 ·unfold gz at hx
  rw[e1]at hx;dsimp only at hx
  cases hp:eW K fuels 60001 0 S1 r 1000 0 l [] with
  |none=>rw[hp]at hx;cases hx
  |some P=>
   obtain⟨R,S2,r2⟩:=P;rw[hp]at hx;cases hx;obtain⟨n,n1,n2⟩:=GC kr fuels 60001 0 1000 0 l [] e3 e4 e5 e6 (by omega) (by omega) (by omega) hi.ls x _ _ hp;exact⟨S1,r,n,e1,by omega,n2⟩
theorem Dd {p:TR.oH} (h:Nb p) {K1 K2:Ks} {m1 m2:Nat} (h1:CB p K1 m1) (h2:CB p K2 m2) {S T:Ss} (s1:HJ S) (s2:HJ T) (name:ByteArray) {st:List Ov} (a b:List Int) {l:List mK} (hi:OK st l) {x y:List Ou} {S' T':Ss} {r' q':Option Rn}
 (hx:gz K1 S m1 name st a l=some (some x,S',r')) (hy:gz K2 T m2 name st b l=some (some y,T',q')):x=y:=by
 obtain⟨S1,r,n,e1,e2,e3⟩:=Cr h h1 s1 name a hi hx;obtain⟨T1,q,m,g1,g2,g3⟩:=Cr h h2 s2 name b hi hy;obtain⟨NR,kr⟩:=I6 h h1 h2 [] (.no _ _);obtain⟨S2,T2,ρ,_,⟨e,f1,f2,f3⟩|⟨r2,q2,f1,f2,f3,f4,f5,f6⟩⟩:=BR kr (s1.sb s2 _ fun _ x=>(by cases x)) name st 7 hi.sv hi.sl
 ·rw[e1]at f1;cases f1
 ·rw[e1]at f1;rw[g1]at f2
  cases f1;cases f2
  have:=pF kr 60400 1000 l [] f3 f4 f5 f6 (by omega) hi.ls;rw[Ds e2 e3,Ds g2 g3]at this;exact Option.some.inj this
end MN
end
section
open Go Go.AM Go.Proofs
set_option maxRecDepth 100000
namespace TR
def iG (p:Pt):Nat→List Pt
 |0=>[p]
 |k+1=>match (iG p k)[k]? with|some x=>iG p k++x.args|none=>iG p k
theorem jJ:∀(l:List Pt),l.length≤bU l
 | []=>by simp
 |e::r=>by have:=jJ r;have:=FM e;rw[bU];simp;omega
theorem HK (p:Pt) (hp:wP p≤1048640):aV Tryz.prog 50 [.p (eP p)] (.p (.sl 4 (oA (iG p (ff p))))):=by
 have hle:=yH p;generalize hn:ff p=N at hle;generalize hP:iG p=S;have hS0:S 0=[p]:=by rw[←hP];rfl
 have hS1:∀k x,(S k)[k]?=some x→S (k+1)=S k++x.args:=fun k x h=>by rw[←hP]at h ⊢;rw[iG];simp only[h]
 have h0:0+bU ([p].drop 0)=N:=by simp[bU,hn]
 clear hP hn;obtain⟨k0,n0,t0,as0⟩:=p;refine aV.intro (ah Tryz.prog) aC Tryz.func50 rfl (by rfl) (by kernel_rfl) (by show 1≤_;decide) rfl ?_;(conv=>whnf);refine bL (ah _) aC (by kernel_rfl) N [3,4] [] (fun k (s:List Pt)=>[.so 4 (oA s),.p (.i .i64 (ix k))]) (fun _ _=>[]) (fun k s=>s=S k∧k≤s.length∧k+bU (s.drop k)=N) [.mk k0 n0 t0 as0] ⟨rfl,rfl,rfl,rfl⟩ ⟨hS0.symm,by simp,h0⟩ ?_;rintro k s hk ⟨hs,hkl,hN⟩;have hlen:=jJ (s.drop k);simp only[List.length_drop]at hlen;(conv=>whnf);refine aj ?_ ?_<;>intro h1<;>conv=>whnf
 ·have hk1:=cm h1 (by rw[gT]) hkl (by omega)
  obtain⟨b,hb1⟩:∃b,s[k]?=some b:=⟨s[k],by simp[hk1]⟩
  refine bO (tC hb1) (by omega) ?_;rw[drop_cons hb1,bU]at hN;have hS2:=hS1 k b (by rw[←hs];exact hb1);obtain⟨bk,bn,bt,ba⟩:=b;rw[ff]at hN;have hal:=jJ ba;have hdl:=jJ (s.drop (k+1));simp only[List.length_drop]at hdl;(conv=>whnf);refine ag (show((oA s).length+(oA ba).length)*56≤140737488355328 by rw[gT,gT];omega) ?_;(conv=>whnf);refine⟨by omega,s++ba,⟨rfl,?_,rfl,rfl⟩,by rw[hS2,hs];rfl,by simp;omega,?_⟩
  ·rw[G4];rfl
  ·rw[List.drop_append_of_le_length (by omega),lQ];omega
 ·have hk1:=cq h1 (by rw[gT]) hkl (by omega)
  have:k=N:=by rw[hk1,List.drop_length,bU]at hN;omega
  subst this;subst hs;exact .inr (.inl rfl)
theorem Az (p:Pt):∀k,k≤ff p→k≤(iG p k).length∧k+bU ((iG p k).drop k)=ff p
 |0,_=>by simp[iG,bU]
 |k+1,h=>by
  obtain⟨h1,h2⟩:=Az p k (by omega);rcases Nat.lt_or_ge k (iG p k).length with q|q
  ·have hb:(iG p k)[k]?=some (iG p k)[k]:=List.getElem?_eq_getElem q
   have e:iG p (k+1)=iG p k++(iG p k)[k].args:=by rw[iG];simp only[hb]
   rw[drop_cons hb,bU]at h2;rw[e,List.drop_append_of_le_length (by omega),lQ];generalize (iG p k)[k]=b at h2;obtain⟨bk,bn,bt,ba⟩:=b;rw[ff]at h2;simp only[Pt.args,List.length_append];omega
  ·rw[List.drop_eq_nil_of_le q,bU]at h2;omega
theorem IP (p:Pt):(iG p (ff p)).length=ff p:=by
 obtain⟨h1,h2⟩:=Az p (ff p) (Nat.le_refl _);have:=jJ ((iG p (ff p)).drop (ff p));simp only[List.length_drop]at this;omega
def LW (e:Ex):Nat:=1+bU (e.dU.map eU.pat)
def pz:List Ex→Nat
 | []=>0
 |e::r=>LW e+pz r
theorem oU (l r:List Ex):pz (l++r)=pz l+pz r:=by
 induction l with
 |nil=>simp[pz]
 |cons a l ih=>simp[pz,ih];omega
mutual
theorem xh:∀(e:Ex),pz (gq e)=pQ e
 |.mk k n t ns ts xs ms p=>by
  rw[gq,pz,oU,AO xs,pQ,LW];have:=AN ms;simp only[Ex.dU];omega
theorem AO:∀(l:List Ex),pz (cZ l)=nO l
 | []=>rfl
 |e::r=>by rw[cZ,oU,xh e,AO r,nO]
theorem AN:∀(l:List eU),bU (l.map eU.pat)+pz (jo l)=nG l
 | []=>rfl
 |.mk p e::r=>by
  have:=AN r;rw[jo,oU,xh e,nG,List.map_cons,bU];simp only[eU.pat];omega
end
theorem L4:∀(l:List Ex) (k:Nat),pz (l.take k)≤pz l:=fun l k=>by
 have:=oU (l.take k) (l.drop k);rw[List.take_append_drop]at this;omega
end TR
end
section
open Go Go.AM Go.Proofs
set_option maxRecDepth 100000
namespace TR
structure Rw where
 nx:Nat
 k:Nat
 l:List Ex
 n:Nat
def Rw.push (s:Rw) (x:Ex):Rw:=⟨s.nx+1,s.nx,s.l.take s.n++[x],s.n+1⟩
def Rw.row (s:Rw):List Ex:=s.l.take s.n
def Rw.ok (s:Rw):Prop:=s.n≤s.l.length
theorem Rw.LR (s:Rw) (x:Ex) (h:s.ok):(s.push x).ok:=by unfold Rw.ok at *;show s.n+1≤(s.l.take s.n++[x]).length;simp;omega
theorem Rw.Jt (s:Rw) (x:Ex) (h:s.ok):(s.push x).row=s.row++[x]:=by
 unfold Rw.ok at h;show(s.l.take s.n++[x]).take (s.n+1)=s.l.take s.n++[x]
 rw[List.take_of_length_le (by simp;omega)]
def jO (s:Rw) (xs:List Ex):Rw:=xs.foldl Rw.push s
theorem xN:∀(xs:List Ex) (s:Rw),s.ok→(jO s xs).ok∧(jO s xs).row=s.row++xs
 | [],s,h=>⟨h,by simp[jO]⟩
 |x::r,s,h=>by
  have:=xN r (s.push x) (s.LR x h);rw[s.Jt x h]at this;exact⟨this.1,by rw[show jO s (x::r)=jO (s.push x) r from rfl,this.2];simp⟩
theorem AZ:∀(xs:List Ex) (s:Rw),(jO s xs).n=s.n+xs.length
 | [],s=>rfl
 |x::r,s=>by
  rw[show jO s (x::r)=jO (s.push x) r from rfl,AZ r];show s.n+1+r.length=s.n+(r.length+1)
  omega
theorem xG (s:Rw) (l:List Ex) (x:Ex):jO s (l++[x])=(jO s l).push x:=by simp[jO]
def F0:Nat→Rw→List Ex→Rw×List Ex
 |0,s,out=>(s,out)
 |k+1,s,out=>match s.n with
  |0=>(s,out)
  |n+1=>match s.l[n]? with
   |none=>(s,out)
   |some x=>F0 k (jO (jO { s with n:=n } (x.dU.map eU.body).reverse) x.args.reverse) (out++[x])
noncomputable def PW:Nat→Option TI:=hint (jQ Tryz.prog) 98 [1000009]
theorem wR:bz Tryz.prog PW:=(ah Tryz.prog).hint _ _
def Pq (s:Rw):br:=.store 101 false 31 s.nx 8 [(s.k,eg s.l)]
theorem HZ (l:List Ex) (k:Nat):eg (l.take k)=(eg l).take k:=by simp[iI,List.map_take]
theorem CJ (s:Rw) (x:Ex):(s.nx,(eg s.l).take s.n++[eE x])::mH s.k [(s.k,eg s.l)]=[(s.nx,eg (s.l.take s.n++[x]))]:=by
 rw[mH,Nat.beq_refl,tS,HZ];rfl
theorem BM (k:Nat) (xs:List PV):rD k [(k,xs)]=some xs:=by rw[rD,Nat.beq_refl]
theorem LI (e:Ex) (he:wE e≤1048640):av Tryz.prog 49 [.p (eE e)] [(1000000000,.store 101 false 31 0 8 [])] (.p (.sl 8 (eg (gq e)))) [(1000000000,Pq (F0 (gq e).length ⟨1,0,[e],1⟩ []).1)]:=by
 have hwl:=wQ e;have hsl:=size_le e;have hmem:=fun x (h:x∈gq e)=>tV e h;generalize hW:gq e=W at hwl hmem;generalize hF:F0 W.length ⟨1,0,[e],1⟩ []=F;unfold Pq;obtain⟨k0,n0,t0,ns0,ts0,as0,ms0,p0⟩:=e;refine av.intro wR aC Tryz.func49 rfl (by rfl) (by kernel_rfl) (by show 1≤_;decide) rfl ?_;(conv=>whnf);refine nW 4 7 rfl ?_
 refine bL wR aC (by kernel_rfl) W.length [3,4] [1000000000] (fun j (s:Rw×List Ex)=>[.p (.jR 31 s.1.k s.1.n),.so 8 (eg s.2)])
  (fun j s=>[.store 101 false 31 s.1.nx 8 [(s.1.k,eg s.1.l)]]) (fun j s=>(s.1.ok∧s.2.length=j)∧s.2++cZ s.1.row.reverse=W∧F0 (W.length-j) s.1 s.2=F) (⟨1,0,[.mk k0 n0 t0 ns0 ts0 as0 ms0 p0],1⟩,[]) ⟨rfl,rfl,rfl,rfl⟩ ⟨⟨Nat.le_refl _,rfl⟩,by simp[cZ,Rw.row,hW],hF⟩ ?_
 rintro j ⟨s,out⟩ hj ⟨⟨hok,hol⟩,hinv,hQ⟩;dsimp only at hok hol hinv hQ;(conv=>whnf);refine aj ?_ ?_<;>intro h1<;>conv=>whnf
 ·obtain⟨nx,k,l,n⟩:=s
  have h1:(n:Int)>0:=of_decide_eq_true h1;obtain⟨n,rfl⟩:∃m,n=m+1:=⟨n-1,by omega⟩
  have hok:n+1≤l.length:=hok;obtain⟨x,hx⟩:∃x,l[n]?=some x:=⟨_,List.getElem?_eq_getElem (by omega)⟩
  have hrow:(⟨nx,k,l,n+1⟩:Rw).row=l.take n++[x]:=by show l.take (n+1)=_;exact cK hx
  have hxW:x∈W:=by rw[←hinv,hrow,List.reverse_append,rV,List.reverse_singleton,cZ,cZ,nD];simp
  have hxw:=hmem x hxW
  have hWl:out.length+((gq x).length+(cZ (l.take n).reverse).length)=W.length:=by
   rw[←hinv,hrow,List.reverse_append,rV,List.reverse_singleton,cZ,cZ];simp
  have hrl:n+1≤(gq x).length+(cZ (l.take n).reverse).length:=by
   have:=yf (l.take n).reverse;rw[nD];simp at this ⊢;omega
  have e1:IntKind.i64.wrap (((n+1:Nat):Int)-1)=(n:Int):=by rw[wrap64 (by omega) (by omega)];omega
  rw[e1];have hsp:(⟨nx,k,l,n⟩:Rw).ok:=Nat.le_of_succ_le hok;have hxl:=fun k n t ns ts xs ms p (q:x=Ex.mk k n t ns ts xs ms p)=>q ▸ ue k n t ns ts xs ms p;have hout2:eg (out++[x])=eg out++[eE x]:=by rw[tS];rfl
  have hxe:=nQ hx
  have hjW:W.length-j=(W.length-(j+1))+1:=by
   have:0<(gq x).length:=by rw[nD];simp
   omega
  rw[hjW,F0]at hQ;dsimp only at hQ;rw[hx]at hQ;dsimp only at hQ;obtain⟨k1,n1,t1,ns1,ts1,as1,ms1,p1⟩:=x;have hxl:=hxl _ _ _ _ _ _ _ _ rfl;simp only[Ex.args,Ex.dU]at hQ;rw[eE]at hxe hout2;refine ag ⟨by omega,by show(n:Int).toNat<n+1;omega⟩ ?_;(conv=>whnf);refine ag ⟨rfl,by decide,.inr rfl⟩ ?_;refine⟨_,BM _ _,?_⟩;refine au (i:=n) hxe ?_;(conv=>whnf);rw[e1];refine ag ⟨by omega,by show(n:Int)≤((n+1:Nat):Int);omega⟩ ?_;(conv=>whnf);refine ag (show((eg out).length+1)*136≤140737488355328 by rw[cz];omega) ?_;(conv=>whnf);generalize hS0:(⟨nx,k,l,n⟩:Rw)=S0 at hQ hsp;have hS0n:S0.n=n:=by rw[←hS0]
  refine bL wR aC (by kernel_rfl) ms1.length [3,4,5,6] [5,1000000000] (fun j (s:Rw)=>[.p (.jR 31 s.k s.n),.so 8 (eg out++[.agg [.i .i64 k1,.i .i64 n1,.s t1,.sl 1 (ns1.map bE),.sl 3 (lK ts1),.sl 8 (eg as1),.sl 12 (jF ms1),.i .i64 p1]]),.ptr 5 0,.p (.i .i64 (dn (IntKind.i64.wrap (((jF ms1).length:Int)-1)) j))])
   (fun j s=>[.cells [.p (.i .i64 k1),.p (.i .i64 n1),.p (.s t1),.p (.sl 1 (ns1.map bE)),.p (.sl 3 (lK ts1)),.p (.sl 8 (eg as1)),.p (.sl 12 (jF ms1)),.p (.i .i64 p1)],.store 101 false 31 s.nx 8 [(s.k,eg s.l)]])
   (fun j s=>s=jO S0 ((ms1.map eU.body).reverse.take j)) S0 ⟨by rw[←hS0];rfl,by rw[←hS0];rfl,rfl,rfl⟩ rfl ?_
  intro k2 s hk3 hs;have hs1:=xN ((ms1.map eU.body).reverse.take k2) S0 hsp;have hs2:=AZ ((ms1.map eU.body).reverse.take k2) S0;rw[←hs]at hs1 hs2;have hsl2:s.n≤4194304:=by rw[hs2,hS0n];simp;omega
  (conv=>whnf);refine aj ?_ ?_<;>intro h2<;>conv=>whnf
  ·have hk4:=Mp h2 (by rw[iJ]) (by omega) hk3
   obtain⟨b,hb1,hb2⟩:=Ht hk4;refine MP (s9 hb2) (by rw[iJ]) (by omega) hk4 ?_;have hts:(ms1.map eU.body).reverse.take (k2+1)=(ms1.map eU.body).reverse.take k2++[b.body]:=cK (by rw[←List.map_reverse,List.getElem?_map,hb1];rfl);obtain⟨⟨bk,bn,bt,ba⟩,⟨b1,b2,b3,b4,b5,b6,b7,b8⟩⟩:=b;have hrp:=CJ s (.mk b1 b2 b3 b4 b5 b6 b7 b8);rw[eE]at hrp;(conv=>whnf);refine⟨rfl,_,BM _ _,?_⟩;refine ag ⟨by rw[cz];exact hs1.1,show(s.n+1)*136≤140737488355328 by omega⟩ ?_;(conv=>whnf);refine⟨hk4,s.push (.mk b1 b2 b3 b4 b5 b6 b7 b8),⟨?_,rfl,rfl,rfl⟩,by rw[hts,xG,hs];rfl⟩;show _=List.map some [br.cells _,.store 101 false 31 (s.nx+1) 8 [(s.nx,eg (s.l.take s.n++[.mk b1 b2 b3 b4 b5 b6 b7 b8]))]];rw[←hrp];rfl
  ·have hk4:=Mq h2 (by rw[iJ]) (by omega) hk3
   have hs3:s=jO S0 (ms1.map eU.body).reverse:=by rw[hs,List.take_of_length_le (by simp[hk4])]
   rw[←hs3]at hQ
   refine bL wR aC (by kernel_rfl) as1.length [3,4,5,7] [5,1000000000] (fun j (s:Rw)=>[.p (.jR 31 s.k s.n),.so 8 (eg out++[.agg [.i .i64 k1,.i .i64 n1,.s t1,.sl 1 (ns1.map bE),.sl 3 (lK ts1),.sl 8 (eg as1),.sl 12 (jF ms1),.i .i64 p1]]),.ptr 5 0,.p (.i .i64 (dn (IntKind.i64.wrap (((eg as1).length:Int)-1)) j))])
    (fun j s=>[.cells [.p (.i .i64 k1),.p (.i .i64 n1),.p (.s t1),.p (.sl 1 (ns1.map bE)),.p (.sl 3 (lK ts1)),.p (.sl 8 (eg as1)),.p (.sl 12 (jF ms1)),.p (.i .i64 p1)],.store 101 false 31 s.nx 8 [(s.k,eg s.l)]])
    (fun j s'=>s'=jO s (as1.reverse.take j)) s ⟨rfl,rfl,rfl,rfl⟩ rfl ?_
   intro k5 s5 hk5 hs5;have hs6:=xN (as1.reverse.take k5) s hs1.1;have hs7:=AZ (as1.reverse.take k5) s;rw[←hs5]at hs6 hs7;have hsl5:s5.n≤8388608:=by rw[hs7];simp;omega
   (conv=>whnf);refine aj ?_ ?_<;>intro h3<;>conv=>whnf
   ·have hk6:=Mp h3 (by rw[cz]) (by omega) hk5
    obtain⟨b,hb1,hb2⟩:=Ht hk6;refine MP (nQ hb2) (by rw[cz]) (by omega) hk6 ?_;have hts:=cK hb1;obtain⟨b1,b2,b3,b4,b5,b6,b7,b8⟩:=b;have hrp:=CJ s5 (.mk b1 b2 b3 b4 b5 b6 b7 b8);rw[eE]at hrp;(conv=>whnf);refine⟨rfl,_,BM _ _,?_⟩;refine ag ⟨by rw[cz];exact hs6.1,show(s5.n+1)*136≤140737488355328 by omega⟩ ?_;(conv=>whnf);refine⟨hk6,s5.push (.mk b1 b2 b3 b4 b5 b6 b7 b8),⟨?_,rfl,rfl,rfl⟩,by rw[hts,xG,hs5]⟩;show _=List.map some [br.cells _,.store 101 false 31 (s5.nx+1) 8 [(s5.nx,eg (s5.l.take s5.n++[.mk b1 b2 b3 b4 b5 b6 b7 b8]))]];rw[←hrp];rfl
   ·have hk6:=Mq h3 (by rw[cz]) (by omega) hk5
    have hs8:s5=jO s as1.reverse:=by rw[hs5,List.take_of_length_le (by simp[hk6])]
    rw[←hs8]at hQ;refine⟨by omega,(s5,out++[Ex.mk k1 n1 t1 ns1 ts1 as1 ms1 p1]),⟨rfl,?_,rfl,rfl⟩,⟨⟨hs6.1,by simp[hol]⟩,?_,by dsimp only;exact hQ⟩⟩
    ·show _=[_,AV.so 8 (eg (out++[Ex.mk k1 n1 t1 ns1 ts1 as1 ms1 p1]))]
     rw[hout2];rfl
    ·dsimp only
     rw[←hinv,hrow,hs6.2,hs1.2,hk4,hk6];rw[show S0.row=l.take n by rw[←hS0];rfl,List.take_of_length_le (show as1.reverse.length≤as1.length by simp),List.take_of_length_le (show(ms1.map eU.body).reverse.length≤ms1.length by simp)];simp[rV,cZ,gq,EB]
 ·have hn0:s.n=0:=by have h1:¬((s.n:Int)>0):=of_decide_eq_false h1;omega
  have hr0:s.row=[]:=by unfold Rw.row;rw[hn0];rfl
  rw[hr0]at hinv;have hw:out=W:=by simpa[cZ] using hinv
  subst hw
  have hFs:F.1=s:=by
   rw[←hQ];generalize out.length-j=m
   cases m with
   |zero=>rfl
   |succ m=>rw[F0,hn0]
  rw[hFs];exact⟨.inr rfl,MN.s6,trivial⟩
theorem JU (e:Ex) (he:wE e≤1048640):av Tryz.prog 49 [.p (eE e)] [] (.p (.sl 8 (eg (gq e)))) []:=by
 have h:=LI e he;refine av.MK (G:=[]) (st:=[(1000000000,.store 101 false 31 0 8 [])]) (st':=[(1000000000,Pq (F0 (gq e).length ⟨1,0,[e],1⟩ []).1)]) h (by simp[uU,sn e]) rfl rfl ?_;show aU (eg (gq e))=true;rw[iI];exact jw eE _ fun x _=>sn x
end TR
end
section
open Go Go.AM Go.Proofs
set_option maxRecDepth 100000
namespace TR
theorem sizeOf_spec (e:Ex) (he:wE e≤1048640):av Tryz.prog 33 [.p (eE e)] [] (.p (.i .i64 (pQ e))) []:=by
 have hall:=JU e he;have hmem:=fun x (h:x∈gq e)=>tV e h;have hsl:=size_le e;have hwl:=wQ e;have hsum:=xh e;rw[←hsum]at hsl hwl ⊢;clear hsum;generalize gq e=W at hall hmem hsl hwl ⊢;obtain⟨k0,n0,t0,ns0,ts0,as0,ms0,p0⟩:=e;refine av.intro (ah Tryz.prog) aC Tryz.func33 rfl (by rfl) (by kernel_rfl) (by show 1≤_;decide) rfl ?_;(conv=>whnf);refine bh [] 300 hall ?_;(conv=>whnf);refine bL (ah _) aC (by kernel_rfl) W.length [3,9,10,11] [] (fun k (s:Int)=>[.p (.i .i64 s),.p (.sl 8 (eg W)),.p (.i .i64 (eg W).length),.p (.i .i64 (ix k))]) (fun _ _=>[]) (fun k s=>s=pz (W.take k)) 0 ⟨rfl,rfl,rfl,rfl⟩ rfl ?_;intro k s hk hs;(conv=>whnf);refine aj ?_ ?_<;>intro h1<;>conv=>whnf
 ·have hk1:=cm h1 (by rw[cz]) hk (by omega)
  obtain⟨b,hb1⟩:∃b,W[k]?=some b:=⟨W[k],by simp[hk1]⟩
  refine bO (nQ hb1) (by omega) ?_;have hbm:=hmem b (List.mem_of_getElem? hb1);have hts:pz (W.take (k+1))=pz (W.take k)+LW b:=by rw[cK hb1,oU];simp[pz]
  have htl:=L4 W (k+1);obtain⟨b1,b2,b3,b4,b5,b6,b7,b8⟩:=b;have hbl:=ue b1 b2 b3 b4 b5 b6 b7 b8;rw[LW]at hts;simp only[Ex.dU]at hts;(conv=>whnf)
  refine bL (ah _) aC (by kernel_rfl) b7.length [3,9,10,11,18,19,20] [] (fun j (s:Int)=>[.p (.i .i64 s),.p (.sl 8 (eg W)),.p (.i .i64 (eg W).length),.p (.i .i64 (ix k)),.p (.sl 12 (jF b7)),.p (.i .i64 (jF b7).length),.p (.i .i64 (ix j))]) (fun _ _=>[])
   (fun j s'=>s'=pz (W.take k)+1+bU ((b7.map eU.pat).take j)) (IntKind.i64.wrap (s+1)) ⟨rfl,rfl,rfl,rfl⟩ (by rw[hs,wrap64 (by omega) (by omega)];simp[bU]) ?_
  intro j s2 hj hs2;have hpl:=EV (b7.map eU.pat) (j+1);(conv=>whnf);refine aj ?_ ?_<;>intro h2<;>conv=>whnf
  ·have hj1:=cm h2 (by rw[iJ]) hj (by omega)
   obtain⟨c,hc1⟩:∃c,b7[j]?=some c:=⟨b7[j],by simp[hj1]⟩
   refine bO (s9 hc1) (by omega) ?_;have hcw:=nV (k:=b1) (n:=b2) (t:=b3) (ns:=b4) (ts:=b5) (xs:=b6) (p:=b8) (List.mem_of_getElem? hc1);have hps:=HK c.pat (by omega);have hpn:=IP c.pat
   have hts2:bU ((b7.map eU.pat).take (j+1))=bU ((b7.map eU.pat).take j)+ff c.pat:=by
    rw[cK (show(b7.map eU.pat)[j]?=some c.pat by rw[List.getElem?_map,hc1];rfl),lQ];simp[bU]
   generalize iG c.pat (ff c.pat)=ps at hps hpn;obtain⟨⟨ck,cn,ct,ca⟩,⟨c1,c2,c3,c4,c5,c6,c7,c8⟩⟩:=c;simp only[eU.pat]at hps hpn hts2;(conv=>whnf);refine jA hps ?_;(conv=>whnf);refine⟨hj1,_,⟨rfl,rfl,rfl,rfl⟩,?_⟩;rw[gT,hpn,hs2,wrap64 (by omega) (by omega),hts2];omega
  ·have hj1:=cq h2 (by rw[iJ]) hj (by omega)
   refine⟨hk1,s2,⟨rfl,rfl,rfl,rfl⟩,?_⟩;have hjl:bU ((b7.map eU.pat).take j)=bU (b7.map eU.pat):=by rw[hj1,List.take_of_length_le (by simp)]
   omega
 ·have hk1:=cq h1 (by rw[cz]) hk (by omega)
  exact⟨.inl (pi (by rw[hs,hk1,List.take_length])),trivial⟩
end TR
end
section
open Go Go.AM Go.Proofs
set_option maxRecDepth 100000
namespace TR
theorem kT (l:List zU):l.length≤PV.cH (l.map cY):=qN cY (fun x=>by have:=wg x;unfold IE at this;omega) l
theorem zb (l:List JS):l.length≤PV.cH (l.map gM):=qN gM (fun x=>by rw[wM];omega) l
theorem CI (l:List w6):l.length≤PV.cH (l.map hY):=qN hY (fun x=>by rw[wz];omega) l
def mV (l:List w6):List zU:=l.flatMap (·.funcs)
def pJ (p:oH):List zU:=mV p.impls++p.funcs
theorem yX:∀(l:List w6),PV.cH ((mV l).map cY)≤PV.cH (l.map hY)
 | []=>by simp[mV]
 |m::r=>by
  have:=yX r;have h2:=wz m;simp only[mV,List.flatMap_cons,List.map_append,List.map_cons,PV.dY,PV.cH]at this ⊢;omega
theorem HL (l:List w6) (m:w6):mV (l++[m])=mV l++m.funcs:=by simp[mV]
theorem HR (l:List w6) (k:Nat):(mV (l.take k)).length≤(mV l).length:=by
 have:mV l=mV (l.take k)++mV (l.drop k):=by unfold mV;rw[←List.flatMap_append,List.take_append_drop]
 rw[this];simp
theorem rI (p:oH):PV.cH ((pJ p).map cY)≤uY p:=by
 rw[pJ,List.map_append,PV.dY,qv];have:=yX p.impls;omega
theorem CA (p:oH) (hp:uY p≤1048576):aV Tryz.prog 48 [.p (kW p)] (.so 15 ((pJ p).map cY)):=by
 have hw:=qv p;have hl1:=CI p.impls;have hl2:=kT p.funcs;have hl3:=kT (mV p.impls);have hl4:=yX p.impls;obtain⟨nm,ver,us,ds,ts,is,fs,acs⟩:=p;simp only[pJ]at *;refine aV.intro (ah Tryz.prog) aC Tryz.func48 rfl (by rfl) (by kernel_rfl) (by show 1≤_;decide) rfl ?_;(conv=>whnf);refine nW 3 14 rfl ?_
 refine bL (ah _) aC (by kernel_rfl) is.length [1,3,7,8,9] [1] (fun k (s:List zU)=>[.ptr 1 0,.so 15 (s.map cY),.p (.sl 3 (is.map hY)),.p (.i .i64 (is.map hY).length),.p (.i .i64 (ix k))])
  (fun _ _=>[.cells [.p (.s nm),.p (.i .i64 ver),.p (.sl 3 (us.map ko)),.p (.sl 3 (ds.map kg)),.p (.sl 2 (ts.map kj)),.p (.sl 3 (is.map hY)),.p (.sl 15 (fs.map cY)),.p (.sl 14 (acs.map gM))]]) (fun k s=>s=mV (is.take k)) [] ⟨rfl,rfl,rfl,rfl⟩ (by simp[mV]) ?_
 intro k s hk hs;(conv=>whnf);refine aj ?_ ?_<;>intro h1<;>conv=>whnf
 ·have hk1:=cm h1 (by simp) hk (by omega)
  obtain⟨b,hb1⟩:∃b,is[k]?=some b:=⟨_,List.getElem?_eq_getElem hk1⟩
  refine bO (x:=hY b) (by simp[hb1]) (by omega) ?_;have hts:mV (is.take (k+1))=mV (is.take k)++b.funcs:=by rw[cK hb1,HL]
  have htl:=HR is (k+1);rw[hts,←hs,List.length_append]at htl;obtain⟨b1,b2,b3⟩:=b;(conv=>whnf);refine ag (show((s.map cY).length+(b3.map cY).length)*272≤140737488355328 by simp at htl ⊢;omega) ?_;(conv=>whnf);refine⟨hk1,s++b3,⟨rfl,?_,rfl,rfl⟩,by rw[hs,hts]⟩;rw[List.map_append];rfl
 ·have hk1:=cq h1 (by simp) hk (by omega)
  have hs2:s=mV is:=by rw[hs,hk1,List.take_length]
  subst hs2;refine ag (show(((mV is).map cY).length+(fs.map cY).length)*272≤140737488355328 by simp;omega) ?_;(conv=>whnf);rw[List.map_append];exact .inl rfl
def jG (p:oH):List Ex:=(pJ p).map (·.body)++p.actors.map (·.body)
theorem DV {p:oH} {e:Ex} (h:e∈jG p):wE e≤uY p:=by
 rcases List.mem_append.1 h with h|h
 ·obtain⟨f,hf,rfl⟩:=List.mem_map.1 h
  have h1:=tv cY hf;have h2:=rI p;have h3:=wg f;unfold IE at h3;omega
 ·obtain⟨f,hf,rfl⟩:=List.mem_map.1 h
  have h1:=tv gM hf;rw[wM]at h1;rw[qv];omega
theorem zF (p:oH) (hp:uY p≤1048576):aV Tryz.prog 32 [.p (kW p)] (.p (.sl 8 (eg (jG p)))):=by
 have hw:=qv p;have h0:=CA p hp;have hl1:=rI p;have hl2:=kT (pJ p);have hl3:=zb p.actors;rw[jG];generalize pJ p=F at h0 hl1 hl2;generalize uY p=W at *;obtain⟨nm,ver,us,ds,ts,is,fs,acs⟩:=p;simp only at *;refine aV.intro (ah Tryz.prog) aC Tryz.func32 rfl (by rfl) (by kernel_rfl) (by show 1≤_;decide) rfl ?_;(conv=>whnf);refine jA h0 ?_;(conv=>whnf);refine nW 3 7 rfl ?_
 refine bL (ah _) aC (by kernel_rfl) F.length [1,3,9,10,11] [1] (fun k (s:List Ex)=>[.ptr 1 0,.so 8 (eg s),.so 15 (F.map cY),.p (.i .i64 (F.map cY).length),.p (.i .i64 (ix k))])
  (fun _ _=>[.cells [.p (.s nm),.p (.i .i64 ver),.p (.sl 3 (us.map ko)),.p (.sl 3 (ds.map kg)),.p (.sl 2 (ts.map kj)),.p (.sl 3 (is.map hY)),.p (.sl 15 (fs.map cY)),.p (.sl 14 (acs.map gM))]]) (fun k s=>s=(F.take k).map (·.body)) [] ⟨rfl,rfl,rfl,rfl⟩ (by simp) ?_
 intro k s hk hs;have hsl:s.length≤1048576:=by rw[hs];simp;omega
 (conv=>whnf);refine aj ?_ ?_<;>intro h1<;>conv=>whnf
 ·have hk1:=cm h1 (by simp) hk (by omega)
  obtain⟨b,hb1⟩:∃b,F[k]?=some b:=⟨_,List.getElem?_eq_getElem hk1⟩
  refine bO (x:=cY b) (by simp[hb1]) (by omega) ?_;have hts:(F.take (k+1)).map (·.body)=(F.take k).map (·.body)++[b.body]:=by rw[cK hb1,List.map_append];rfl
  obtain⟨b1,b2,b3,b4,⟨b5,b6,b7⟩,⟨c1,c2,c3,c4,c5,c6,c7,c8⟩⟩:=b;(conv=>whnf);refine ag (show((eg s).length+1)*136≤140737488355328 by rw[cz];omega) ?_;(conv=>whnf);refine⟨hk1,s++[.mk c1 c2 c3 c4 c5 c6 c7 c8],⟨rfl,?_,rfl,rfl⟩,by rw[hs,hts]⟩;rw[tS];rfl
 ·have hk1:=cq h1 (by simp) hk (by omega)
  have hs2:s=F.map (·.body):=by rw[hs,hk1,List.take_length]
  subst hs2
  refine bL (ah _) aC (by kernel_rfl) acs.length [3,22,23,24] [] (fun k (s:List Ex)=>[.so 8 (eg s),.p (.sl 14 (acs.map gM)),.p (.i .i64 (acs.map gM).length),.p (.i .i64 (ix k))]) (fun _ _=>[])
   (fun k s=>s=F.map (·.body)++(acs.take k).map (·.body)) (F.map (·.body)) ⟨rfl,rfl,rfl,rfl⟩ (by simp) ?_
  intro j s hj hs;have hsl:s.length≤2097152:=by rw[hs];simp;omega
  (conv=>whnf);refine aj ?_ ?_<;>intro h2<;>conv=>whnf
  ·have hj1:=cm h2 (by simp) hj (by omega)
   obtain⟨b,hb1⟩:∃b,acs[j]?=some b:=⟨_,List.getElem?_eq_getElem hj1⟩
   refine bO (x:=gM b) (by simp[hb1]) (by omega) ?_;have hts:(acs.take (j+1)).map (·.body)=(acs.take j).map (·.body)++[b.body]:=by rw[cK hb1,List.map_append];rfl
   obtain⟨b1,b2,b3,⟨b4,b5,b6⟩,⟨c1,c2,c3,c4,c5,c6,c7,c8⟩⟩:=b;(conv=>whnf);refine ag (show((eg s).length+1)*136≤140737488355328 by rw[cz];omega) ?_;(conv=>whnf);refine⟨hj1,s++[.mk c1 c2 c3 c4 c5 c6 c7 c8],⟨rfl,?_,rfl,rfl⟩,by rw[hs,hts];simp⟩;rw[tS];rfl
  ·have hj1:=cq h2 (by simp) hj (by omega)
   have hs2:s=F.map (·.body)++acs.map (·.body):=by rw[hs,hj1,List.take_length]
   subst hs2;exact .inr (.inl rfl)
def H7:List Ex→Int→Int
 | [],n=>n
 |e::r,n=>H7 r (IntKind.i64.wrap (n+pQ e))
theorem Fz (p:oH) (hp:uY p≤1048576):av Tryz.prog 17 [.p (kW p)] [] (.p (.b (decide (H7 (jG p) 0≤400)))) []:=by
 have h0:=zF p hp;have hB:=fun e (h:e∈jG p)=>DV h
 have hl:(jG p).length≤2097152:=by
  have:=kT (pJ p);have:=rI p;have:=zb p.actors;have:=qv p;simp[jG];omega
 generalize jG p=Bs at h0 hB hl;generalize uY p=W at *;obtain⟨nm,ver,us,ds,ts,is,fs,acs⟩:=p;refine av.intro (ah Tryz.prog) aC Tryz.func17 rfl (by rfl) (by kernel_rfl) (by show 1≤_;decide) rfl ?_;(conv=>whnf);refine jA h0 ?_;(conv=>whnf);refine bL (ah _) aC (by kernel_rfl) Bs.length [3,7,8,9] [] (fun k (s:Int)=>[.p (.i .i64 s),.p (.sl 8 (eg Bs)),.p (.i .i64 (eg Bs).length),.p (.i .i64 (ix k))]) (fun _ _=>[]) (fun k s=>H7 Bs 0=H7 (Bs.drop k) s) 0 ⟨rfl,rfl,rfl,rfl⟩ rfl ?_;intro k s hk hs;(conv=>whnf);refine aj ?_ ?_<;>intro h1<;>conv=>whnf
 ·have hk1:=cm h1 (by rw[cz]) hk (by omega)
  obtain⟨b,hb1⟩:∃b,Bs[k]?=some b:=⟨_,List.getElem?_eq_getElem hk1⟩
  refine bO (nQ hb1) (by omega) ?_;have hc:=sizeOf_spec b (by have:=hB b (List.mem_of_getElem? hb1);omega);rw[drop_cons hb1,H7]at hs;generalize pQ b=z at hc hs;obtain⟨c1,c2,c3,c4,c5,c6,c7,c8⟩:=b;(conv=>whnf);refine bh [] 300 hc ?_;(conv=>whnf);exact⟨hk1,IntKind.i64.wrap (s+z),⟨rfl,rfl,rfl,rfl⟩,hs⟩
 ·have hk1:=cq h1 (by rw[cz]) hk (by omega)
  rw[hk1,List.drop_length,H7]at hs;exact⟨.inl (pb (by rw[hs])),trivial⟩
end TR
end
section
open Go Go.Proofs
set_option maxRecDepth 100000
namespace PA
theorem FD (w:World):(Instr.typeAssert .nilIface 20 148 true).run Tryz.prog w=.ok (.tuple #[.agg #[.int .i64 0],.bool false]) w:=by kernel_rfl
theorem L0 (w:World):(binOp .neq 20 .nilIface .nilIface).run Tryz.prog w=.ok (.bool false) w:=by kernel_rfl
set_option maxHeartbeats 1000000 in
theorem F5 (p q r:Addr) (w:World):
 CallsD Tryz.prog 42 #[.pointer (some p),.pointer (some q),.pointer (some r)] .returning w fun e u' w'=>e=.returned (.tuple #[])∧u'=.returning∧w'=(w.alloc (.cells #[.int .i64 0] 148)).setCell ⟨w.heap.size,0,none⟩ (.int .i64 0):=by
 refine callsD_of_wpS Tryz.func42 rfl fun c₀ cs hu=>?_
 apply wpS_seq
 apply wpS_region
 simp[wpOpsS,go_sem,recoverD,hu,Tryz.ntmps42,Exit.thenS]
 apply wpS_seq
 apply wpS_region
 simp[wpOpsS,go_sem,Exit.thenS,FD]
 apply wpS_seq
 apply wpS_region
 simp[wpOpsS,go_sem,Exit.thenS];refine wpS_cond (t:=false) (by simp[Act.eval,Array.replicate]) ?_;simp only[Bool.false_eq_true,if_false]
 apply wpS_seq
 apply wpS_region
 simp[wpOpsS,go_sem,Exit.thenS,L0];refine wpS_cond (t:=false) (by simp[Act.eval,Array.replicate]) ?_;simp only[Bool.false_eq_true,if_false];refine wpS_of_wp (wp_skip ?_);cases c₀
 simp_all [bodyPostS,results,Tryz.results42]
end PA
end
section
open Go Go.AM Go.Proofs TK
set_option maxRecDepth 100000
namespace PA
theorem aC:Tryz.prog.follows .mixedOrders=true:=by kernel_rfl
end PA
end
section
open Go Go.AM Go.Proofs TK
set_option maxRecDepth 100000
namespace PA
section
variable {T:List Tk} {en:Int} {a:Nat} {α:Type} {e:α→AV}
end
end PA
end
section
open Go Go.AM Go.Proofs TK
set_option maxRecDepth 100000
namespace PA
section
variable {T:List Tk} {en:Int}
end
end PA
end
section
open Go Go.AM Go.Proofs TK
set_option maxRecDepth 100000
end
section
open Go Go.AM Go.Proofs TK TR
set_option maxRecDepth 100000
end
section
open Go Go.AM Go.Proofs TK TR
set_option maxRecDepth 100000
end
section
open Go Go.AM Go.Proofs TK TR
set_option maxRecDepth 100000
end
section
open Go Go.AM Go.Proofs TK TR
set_option maxRecDepth 100000
namespace PA
section
variable {T:List Tk} {en:Int} {a:Nat} {α:Type} {e:α→AV}
end
end PA
end
section
open Go Go.AM Go.Proofs TK TR
set_option maxRecDepth 100000
end
section
open Go Go.AM Go.Proofs TK TR
set_option maxRecDepth 100000
end
section
open Go Go.AM Go.Proofs TK TR
set_option maxRecDepth 100000
namespace PA
section
variable {G:Nat} {tab:List Value} {T:List Tk} {en:Int} {a:Nat} {α:Type} {e:α→AV}
end
def Kg (s:ByteArray):Int×Bool:=match Lib.parseIntB 64 s.data.toList with
 |.ok v=>(v,false)
 |.range=>(Lib.intSat 64 s.data.toList,true)
 |_=>(0,true)
def PE {α:Type} (x:Lib.NumEnd α):Bool:=match x with
 |.ok _=>true
 |.range=>true
 |_=>false
def QG (G:Nat) (tab:List Value):Prop:=∀s:ByteArray,s.size≤5000→PE (Lib.parseIntB 64 s.data.toList)=true→av Tryz.prog 93 [.p (.s s),.p (.i .i64 10),.p (.i .i64 64)] [(1000000000,.bK G tab)] (.cA [.p (.i .i64 (Kg s).1),.v7 (Kg s).2]) [(1000000000,.bK G tab)]
structure QK (T:List Tk):Prop where
 len:T.length≤4000
 num:∀t∈T,t.kind=4→∀pre:ByteArray,pre=⟨#[]⟩∨pre=⟨#[45]⟩→(pre++B t.text).size≤5000∧PE (Lib.parseIntB 64 (pre++B t.text).data.toList)=true
end PA
end
section
open Go Go.AM Go.Proofs TK TR
set_option maxRecDepth 100000
end
section
open Go Go.AM Go.Proofs TK TR
set_option maxRecDepth 100000
end
