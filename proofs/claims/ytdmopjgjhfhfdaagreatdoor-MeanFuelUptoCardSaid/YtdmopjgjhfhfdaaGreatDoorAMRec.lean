/- Part of a machine over plain values. No conditions. -/
import Derived.Test.YtdmopjgjhfhfdaaGreatDoorTK1
import Derived.Test.YtdmopjgjhfhfdaaGreatDoorPAD
import Derived.Test.YtdmopjgjhfhfdaaGreatDoorMN5
import Derived.Shelf.Strconv.Itoa3
import Derived.Lib.ItoaLen
import Derived.Shelf.LaysC
import Derived.Ground.NamesProg
import Derived.Shelf.Strconv.ParseIntPublic10
import Derived.Test.YtdmopjgjhfhfdaaGreatDoorTR7
import Derived.Test.YtdmopjgjhfhfdaaGreatDoorAMRngD
set_option linter.all false
section
open Go Go.AM Go.Proofs
set_option maxRecDepth 100000
namespace TK
theorem Ly (l:Bs) (c:UInt8) (h:0<l.count c):∃m:Nat,Lib.indexByte l c=m∧m<l.length∧fm c l=l.take m::fm c (l.drop (m+1))∧(l.drop (m+1)).count c+1=l.count c:=by
 induction l with
 |nil=>simp at h
 |cons x r ih=>
  rw[show fm c (x::r)=bif x==c then []::fm c r else match fm c r with|p::ps=>(x::p)::ps | []=>[[x]] from rfl];unfold Lib.indexByte
  cases hx:x==c with
  |true=>
   have e:=eq_of_beq hx;subst e;exact⟨0,by simp,by simp,by simp,by simp⟩
  |false=>
   have hne:x≠c:=by intro e;subst e;simp at hx
   have hc:r.count c=(x::r).count c:=by rw[List.count_cons_of_ne hne]
   obtain⟨m,h1,h2,h3,h4⟩:=ih (by omega);refine⟨m+1,?_,by simp;omega,?_,?_⟩
   ·rw[h1,if_neg (by simp),if_neg (by simp)];omega
   ·rw[h3];rfl
   ·simp only[List.drop_succ_cons];rw[←hc];exact h4
theorem Ez (l:Bs) (c:UInt8) (h:l.count c=0):fm c l=[l]:=by
 induction l with
 |nil=>rfl
 |cons x r ih=>
  have hne:x≠c:=by intro e;subst e;simp at h
  have hx:(x==c)=false:=by simpa using hne
  rw[fm,hx,ih (by rw[List.count_cons_of_ne hne]at h;exact h)];rfl
theorem AE (l:Bs) (c:UInt8):(fm c l).length=l.count c+1:=by
 induction l with
 |nil=>rfl
 |cons x r ih=>
  rw[fm]
  cases hx:x==c with
  |true=>have e:=eq_of_beq hx;subst e;simp[ih]
  |false=>
   have hne:x≠c:=by intro e;subst e;simp at hx
   rw[List.count_cons_of_ne hne]
   cases hs:fm c r with
   |nil=>rw[hs]at ih;simp at ih
   |cons p ps=>rw[hs]at ih;simpa using ih
theorem Aa (l:Bs) (c:UInt8):l.count c≤l.length:=List.count_le_length
theorem Md {α:Type} (a:List α) (x y:α) (b:List α):(a++x::b).set a.length y=a++y::b:=by
 rw[List.set_append_right _ _ (Nat.le_refl _)];simp
theorem JY {α:Type} (a:List α) (k:Nat) (h:a.length=k) (x y:α) (b:List α):(a++x::b).set k y=a++y::b:=by subst h;exact Md a x y b
theorem Ap (n:Nat) (h:0<n) (x:PV):List.replicate n x=x::List.replicate (n-1) x:=by
 obtain⟨m,rfl⟩:∃m,n=m+1:=⟨n-1,by omega⟩
 rfl
theorem B6 (l:Bs) (c:UInt8) (sep:ByteArray) (hl:l.length≤1048576) (RR:List Bs) (hRR:fm c l=RR) (N:Nat) (hN:l.count c=N)
 (hc:aV Tryz.prog 52 [.p (.s (B l)),.p (.s sep)] (.p (.i .i64 N)))
 (hi:∀r,aV Tryz.prog 80 [.p (.s (B r)),.p (.s sep)] (.p (.i .i64 (Lib.indexByte r c))))
 (hse:(sep.toList==ByteArray.toList ⟨#[]⟩)=false) (hsz:sep.size=1):
 aV Tryz.prog 175 [.p (.s (B l)),.p (.s sep),.p (.i .i64 0),.p (.i .i64 (-1))] (.p (.sl 1 (RR.map bE))):=by
 have hcl:=Aa l c;have hR:=AE l c;rw[hN]at hcl hR;refine aV.intro (ah Tryz.prog) aC Tryz.func175 rfl (by rfl) (by kernel_rfl) (by show 4≤_;decide) rfl ?_;(conv=>whnf);refine bD hse ?_;(conv=>whnf);refine jA hc ?_;(conv=>whnf);have e1:IntKind.i64.wrap ((N:Int)+1)=((N+1:Nat):Int):=by rw[wrap64 (by omega) (by omega)];omega
 have e2:(IntKind.i64.wrap (((B l).size:Int)+1))=((l.length+1:Nat):Int):=by rw[rF,wrap64 (by omega) (by omega)];omega
 rw[e1,e2,if_neg (by omega)];refine ag (show _∧_∧((N+1:Nat):Int)*((16:Nat):Int)≤140737488355328 from⟨rfl,by omega,by omega⟩) ?_;(conv=>whnf);have e3:IntKind.i64.wrap (((N+1:Nat):Int)-1)=(N:Int):=by rw[wrap64 (by omega) (by omega)];omega
 refine bL (ah _) aC (by kernel_rfl) N [0,1,2,3,9,10] [31] (fun k (s:List Bs×Bs)=>[.p (.s (B s.2)),.p (.s sep),.p (.i .i64 0),.p (.i .i64 (IntKind.i64.wrap (((N+1:Nat):Int)-1))),.ar 31,.p (.i .i64 (ix k))])
  (fun k s=>[.arr (s.1.map bE++List.replicate (N+1-k) (bE []))]) (fun k s=>s.1.length=k∧RR=s.1++fm c s.2∧k+s.2.count c=N∧s.2.length≤l.length) ([],l) ⟨rfl,rfl,rfl,rfl⟩ ⟨rfl,by simpa using hRR.symm,by simpa using hN,Nat.le_refl _⟩ ?_
 rintro k s hk ⟨q1,q2,q3,q4⟩;have hkx:ix k=(k:Int):=nq (by omega);(conv=>whnf);refine aj ?_ ?_<;>intro h1
 ·rw[e3,hkx]at h1
  have hk1:k<N:=by simpa using h1
  obtain⟨m,m1,m2,m3,m4⟩:=Ly s.2 c (by omega);have hq:=hi s.2;rw[m1]at hq;have u1:IntKind.i64.wrap ((m:Int)+0)=(m:Int):=by rw[wrap64 (by omega) (by omega)];omega
  have u2:IntKind.i64.wrap ((m:Int)+(sep.size:Int))=((m+1:Nat):Int):=by rw[hsz,wrap64 (by omega) (by omega)];omega
  have x1:(B s.2).extract (0:Int).toNat (IntKind.i64.wrap ((m:Int)+0)).toNat=B (s.2.take m):=by rw[u1,Jz];simp
  have x2:(B s.2).extract (IntKind.i64.wrap ((m:Int)+(sep.size:Int))).toNat (((B s.2).size:Nat):Int).toNat=B (s.2.drop (m+1)):=by
   rw[u2,Jz,rF,Int.toNat_natCast,Int.toNat_natCast,List.take_of_length_le (by rw[List.length_drop];exact Nat.le_refl _)]
  (conv=>whnf);refine jA hq ?_;(conv=>whnf);refine ag (by rw[u1,rF];omega) ?_;rw[x1];(conv=>whnf);refine ag (by rw[hkx];exact⟨by omega,by rw[List.length_append,List.length_map,List.length_replicate];omega⟩) ?_;(conv=>whnf);refine ag (by rw[hkx,List.length_append,List.length_map,List.length_replicate];omega) ?_;(conv=>whnf);refine ag (by rw[u2,rF];omega) ?_;rw[x2];(conv=>whnf);refine⟨hk1,(s.1++[s.2.take m],s.2.drop (m+1)),⟨?_,rfl,rfl,rfl⟩,by simp[q1],by rw[q2,m3];simp,(by omega:k+1+(s.2.drop (m+1)).count c=N),by rw[List.length_drop];omega⟩;refine congrArg (fun z=>[some (br.arr z)]) ?_;show(s.1.map bE++List.replicate (N+1-k) (bE [])).set (ix k).toNat (bE (s.2.take m))=(s.1++[s.2.take m]).map bE++List.replicate (N+1-(k+1)) (bE []);rw[hkx,Ap (N+1-k) (by omega),Int.toNat_natCast,JY _ k (by simp[q1]),show N+1-k-1=N+1-(k+1) by omega];simp
 ·rw[e3,hkx]at h1
  have hk1:k=N:=by simp at h1;omega
  have c0:s.2.count c=0:=by omega
  have hkx2:IntKind.i64.wrap (ix k+1)=((k+1:Nat):Int):=by rw[hkx,wrap64 (by omega) (by omega)];omega
  rw[Ez s.2 c c0]at q2;(conv=>whnf);refine ag (by rw[hkx];exact⟨by omega,by rw[List.length_append,List.length_map,List.length_replicate];omega⟩) ?_;(conv=>whnf);refine ag (by rw[hkx,List.length_append,List.length_map,List.length_replicate];omega) ?_
  have hx:(s.1.map bE++List.replicate (N+1-k) (bE [])).set (ix k).toNat (bE s.2)=RR.map bE:=by
   rw[hkx,Ap (N+1-k) (by omega),Int.toNat_natCast,JY _ k (by simp[q1]),show N+1-k-1=0 by omega,q2];simp
  conv=>whnf
  refine ag (by
   show IntKind.i64.wrap (ix k+1)=(((s.1.map bE++List.replicate (N+1-k) (bE [])).set (ix k).toNat (bE s.2)).length:Int)
   rw[hx,hkx2,List.length_map,←hRR,hR,hk1]) ?_
  (conv=>whnf);exact .inr (.inr ⟨_,_,rfl,rfl,congrArg (fun z=>AV.p (PV.sl 1 z)) hx.symm⟩)
theorem zI (l:Bs) (c:UInt8) (hl:l.length≤1048576):aV Tryz.prog 175 [.p (.s (B l)),.p (.s (B [c])),.p (.i .i64 0),.p (.i .i64 (-1))] (.p (.sl 1 ((fm c l).map bE))):=
 B6 l c (B [c]) hl _ rfl _ rfl (rW l c) (fun r=>index_spec r c) (by rw[show(⟨#[]⟩:ByteArray)=B [] from rfl,s8];rfl) rfl
end TK
end
section
open Go Go.AM Go.Proofs
set_option maxRecDepth 100000
namespace TK
theorem xz (l:Bs) (sep:ByteArray) (hs:sep=B [32]) (hl:l.length≤1048576):aV Tryz.prog 150 [.p (.s (B l)),.p (.s sep)] (.p (.sl 1 ((fm 32 l).map bE))):=by
 have h:=zI l 32 hl;rw[←hs]at h;refine aV.intro (ah Tryz.prog) aC Tryz.func150 rfl (by rfl) (by kernel_rfl) (by show 2≤_;decide) rfl ?_;(conv=>whnf);refine jA h ?_;(conv=>whnf);exact .inl rfl
theorem xw:aV Tryz.prog 123 [] (.p (.sl 1 (sx.map bE))):=by
 have h:=xz Kw (B [32]) rfl (by decide);rw[show fm 32 Kw=sx from rfl]at h;refine aV.intro (ah Tryz.prog) aC Tryz.func123 rfl (by rfl) (by kernel_rfl) (by show 0≤_;decide) rfl ?_;(conv=>whnf);refine jA h ?_;(conv=>whnf);exact .inl rfl
def A8 (x:Bs):List Bs→Nat→Int
 | [],_=>-1
 |a::r,k=>bif x==a then (k:Int) else A8 x r (k+1)
theorem G0 (x:Bs):∀(l:List Bs) (k:Nat),decide (A8 x l k≥0)=l.contains x
 | [],k=>by simp[A8]
 |a::r,k=>by
  rw[A8,List.contains_cons]
  cases h:x==a with
  |true=>simp
  |false=>rw[cond_false,G0 x r (k+1),Bool.false_or]
theorem Ir (l:List Bs) (x:Bs) (hb:l.length<9223372036854775807):aV Tryz.prog 149 [.p (.sl 1 (l.map bE)),.p (.s (B x))] (.p (.i .i64 (A8 x l 0))):=by
 refine aV.intro (ah Tryz.prog) aC Tryz.func149 rfl (by rfl) (by kernel_rfl) (by show 2≤_;decide) rfl ?_;(conv=>whnf);refine bL (ah _) aC (by kernel_rfl) l.length [0,1,6,7,8] [] (fun k _=>[.p (.sl 1 (l.map bE)),.p (.s (B x)),.p (.sl 1 (l.map bE)),.p (.i .i64 (l.map bE).length),.p (.i .i64 (ix k))]) (fun _ _=>[]) (fun k _=>A8 x l 0=A8 x (l.drop k) k) () ⟨rfl,rfl,rfl,rfl⟩ rfl ?_;intro k s hk hn;(conv=>whnf);refine aj ?_ ?_<;>intro h1<;>conv=>whnf
 ·have hk1:=cm h1 (by simp) hk (by omega)
  obtain⟨b,hb1⟩:∃b,l[k]?=some b:=⟨l[k],by simp[hk1]⟩
  rw[drop_cons hb1,A8]at hn;refine bO (x:=bE b) (by simp[hb1]) (by omega) ?_;(conv=>whnf);refine aj ?_ ?_<;>intro h2<;>conv=>whnf
  ·rw[s8]at h2
   refine .inl (pi ?_);rw[hn,h2,nq (by omega)];rfl
  ·rw[s8]at h2
   exact⟨hk1,(),⟨rfl,rfl,rfl,rfl⟩,by rw[hn,h2];rfl⟩
 ·have hk1:=cq h1 (by simp) hk (by omega)
  rw[hk1,List.drop_length,A8]at hn;exact .inl (pi hn.symm)
theorem HG (l:AV) (x:Bs) (i:Int) (h:aV Tryz.prog 149 [l,.p (.s (B x))] (.p (.i .i64 i))) (hl:∃s xs,l=.p (.sl s xs)):aV Tryz.prog 122 [l,.p (.s (B x))] (.p (.b (decide (i≥0)))):=by
 obtain⟨s,xs,rfl⟩:=hl;refine aV.intro (ah Tryz.prog) aC Tryz.func122 rfl (by rfl) (by kernel_rfl) (by show 2≤_;decide) rfl ?_;(conv=>whnf);refine jA h ?_;(conv=>whnf);exact .inl rfl
theorem Fs (l:List Bs) (x:Bs) (hb:l.length<9223372036854775807):aV Tryz.prog 122 [.p (.sl 1 (l.map bE)),.p (.s (B x))] (.p (.b (l.contains x))):=by
 rw[←G0 x l 0];exact HG _ x _ (Ir l x hb) ⟨_,_,rfl⟩
end TK
end
section
open Go Go.AM Go.Proofs TK TR
set_option maxRecDepth 100000
end
section
open Go Go.AM Go.Proofs TK TR
set_option maxRecDepth 100000
end
section
open Go Go.AM Go.Proofs TK TR
set_option maxRecDepth 100000
end
section
open Go Go.AM Go.Proofs TK TR
set_option maxRecDepth 100000
end
section
open Go Go.AM Go.Proofs TK TR
set_option maxRecDepth 100000
end
section
open Go Go.AM Go.Proofs TK TR
set_option maxRecDepth 100000
end
section
open Go Go.AM Go.Proofs TK TR
set_option maxRecDepth 100000
end
section
open Go Go.AM Go.Proofs TK TR
set_option maxRecDepth 100000
end
section
open Go Go.AM Go.Proofs TK TR
set_option maxRecDepth 100000
end
section
namespace Go.AM
open Go.ChangeShapes Go.WideShapes Go.ChangeAt Go.RowKit
theorem zJ {H:Type} {enc:TypeId×Value→H} {P:Program} {F:Nat} {fn:Func} {s:ChangeSpec} {fresh handsOn again:Bool} {tb:Nat} {l:List Nat} {gh:Heap} (hvars:s.vars=[]) (hl:Bm P l=true) (hpl:∀t∈fn.params.toList,t∈l)
 (hlaid:laidOutB P=true) (hread:∀t∈fn.params.toList,P.readableRec t=true∧t<P.types.size) (hres:fn.resultTypes=#[tb]) (hb:P.underlying tb=some .bool)
 (hspec:∀ds:List (DataW H),ds.length=fn.params.toList.length→(s.fn H ds).results=[.lit (.bool true)]∧(s.fn H ds).args=ds∧(s.fn H ds).vars=[])
 (W:World) (base:Nat) (args:Array Value) (ds gs:List (DataW H)) (before:List MemPlace)
 (hval:∀(j:Nat) t v,fn.params[j]?=some t→args[j]?=some v→Value.okWide P W .any base t v)
 (hW:DataW.Whole enc P fn.params.toList s.vars false W args.toList ds gs before) (hwt:∀x∈DataW.weightsEach P fn.params.toList ds,x≤reachBytes)
 (hgb:gj (rC W) W gh)
 (hpure:∀xss:List (List PV),Nh P fn.params.toList xss→Dx xss≤cU ds→av P F (mG P fn.params.toList xss) gh (.p (.b true)) gh):
 Calls P F args W fun e W'=>∃v,e=.returned v∧s.post enc P fn false fresh handsOn again W args v W':=by
 have hW':=hW;obtain⟨p,q,hA,hV,hps,hfz,hnd⟩:=hW;rw[hvars]at hV
 have hgs:gs=[]∧q=[]:=by
  cases gs with
  |nil=>exact⟨rfl,hV⟩
  |cons x r=>simp[DataW.TrodVars]at hV
 obtain⟨rfl,rfl⟩:=hgs;simp only[List.append_nil]at hps;subst hps;obtain⟨xss,k1,k2,k3,k4⟩:=Cz hl fn.params.toList args.toList ds before hpl hA (fun j t v a b=>hval j t v (by simpa using a) (by simpa using b)) hwt
 have hdl:ds.length=fn.params.toList.length:=by
  clear hval hW' hwt hpure k1 k2 k3 k4 hfz hnd hspec hpl hread;generalize fn.params.toList=ts at hA;generalize args.toList=vs at hA
  induction ts generalizing vs ds before with
  |nil=>
   cases vs<;>cases ds<;>simp[DataW.TrodAll]at hA ⊢
  |cons t ts ih=>
   cases vs with
   |nil=>simp[DataW.TrodAll]at hA
   |cons v vs=>
    cases ds with
    |nil=>simp[DataW.TrodAll]at hA
    |cons d ds=>
     obtain⟨p,q,_,h2,_⟩:=hA;simp[ih ds q vs h2]
 obtain⟨s1,s2,s3⟩:=hspec ds hdl;have hcall:=(hpure xss k1 k4).2 (rC W) W args.toList hgb (fun _ _ h=>by cases h) k2 (fun j v x h1 h2=>(k3 j v x h1 h2).keep (fun _ _ _ h=>h) (fun _ h=>h.elim) (fun _ _ _ h=>h.elim) (fun _ _ h=>by cases h));simp only[Array.toArray_toList]at hcall;refine hcall.mono ?_;rintro e W' ⟨v,g',rfl,hv,_,_,hE⟩;have hg:=hE.grown (fun _=>rfl);cases hv.bool;refine⟨_,rfl,zT (pa:=before) (pv:=[]) hW' (fun bb sp hd=>?_) (fun sp hsp=>?_) (fun sp _=>?_) (by simp) (World.keptBut_mono (fun _ f=>f.elim) hg.1) hg.2 (ok_one hres rfl (okWide_bool_mk hb true))⟩
 ·rw[List.append_nil,s1,hres]
  exact trodAll_cons_mk (shut_bool hb true) trodAll_mk0
 ·rw[List.append_nil,s2]
  refine rj hlaid _ _ _ _ hread hA (fun x hx=>?_) hsp;have hlt:=hW'.lt x hx
  cases x with
  |cell b off=>
   have:W'.heap[b]?=W.heap[b]?:=(hE.kept b hlt rfl).1;simp only[World.sameAt,World.cell?,this]
  |map b=>exact(hE.kept b hlt rfl).1
 ·rw[List.append_nil,s3,hvars];rfl
theorem Ii {H:Type} {enc:TypeId×Value→H} {P:Program} {F:Nat} {fn:Func} {s:ChangeSpec} {fresh handsOn again:Bool} {tb:Nat} {gh:Heap} (B:Nat) (ps:List Nat) (hvars:s.vars=[]) (hp:fn.params.toList=ps) (hck:Mz P ps=true)
 (hres:fn.resultTypes=#[tb]) (hb:P.underlying tb=some .bool)
 (hspec:∀ds:List (DataW H),ds.length=ps.length→(s.fn H ds).results=[.lit (.bool true)]∧(s.fn H ds).args=ds∧(s.fn H ds).vars=[])
 (W:World) (base:Nat) (args:Array Value) (ds gs:List (DataW H)) (before:List MemPlace)
 (hval:∀(j:Nat) t v,fn.params[j]?=some t→args[j]?=some v→Value.okWide P W .any base t v)
 (hW:DataW.Whole enc P fn.params.toList s.vars false W args.toList ds gs before) {vs:List Nat} (hsz:(DataW.weightsEach P (fn.params.toList++vs) (ds++gs)).all (·≤reachBytes)=true) (hvs:vs=[]) (hB:cU (ds++gs)≤B)
 (hgb:gj (rC W) W gh)
 (hpure:∀xss:List (List PV),Nh P ps xss→Dx xss≤B→av P F (mG P ps xss) gh (.p (.b true)) gh):
 Calls P F args W fun e W'=>∃v,e=.returned v∧s.post enc P fn false fresh handsOn again W args v W':=by
 simp only[Mz,Bool.and_eq_true,List.all_eq_true,List.contains_iff_mem]at hck;obtain⟨⟨h1,h2⟩,h3⟩:=hck
 have hg:gs=[]:=by
  obtain⟨p,q,_,hV,_⟩:=hW;rw[hvars]at hV
  cases gs with
  |nil=>rfl
  |cons x r=>simp[DataW.TrodVars]at hV
 subst hg;subst hvs;simp only[List.append_nil]at hsz hB;refine zJ (l:=oh P 1000 ps []) hvars h1 (by rw[hp];exact fun t ht=>(h2 t ht).1.1) h3 (by rw[hp];exact fun t ht=>⟨(h2 t ht).1.2,by have:=(h2 t ht).2;rwa [Nat.blt_eq]at this⟩) hres hb (by rw[hp];exact hspec) W base args ds [] before hval hW ?_ hgb (by rw[hp];exact fun xss h h'=>hpure xss h (by omega));intro x hx;exact of_decide_eq_true (List.all_eq_true.1 hsz x hx)
theorem Ic {g:Gh} {w w':World} (hs:w.heap.size≤w'.heap.size) (hos:w'.os=w.os) (hout:w'.output=w.output) (hblk:∀b,b<w.heap.size→w'.heap[b]?=w.heap[b]?):Ext g w g w':=by
 refine⟨hs,hos,hout,fun b o v hv=>?_,fun b hb ho=>⟨hblk b hb,rfl,ho⟩,rO.of rfl rfl,fun a ha=>?_,fun _ _=>rfl,fun b cs E hb=>⟨cs,E,?_,rfl⟩⟩
 ·simp only[cI]at hv ⊢
  split at hv
  ·rename_i hp
   rw[if_pos hp]
   have hlt:b<w.heap.size:=by
    unfold World.cell? at hv;split at hv
    ·rename_i hb
     exact(Array.getElem?_eq_some_iff.1 hb).1
    ·cases hv
   unfold World.cell? at hv ⊢;rw[hblk b hlt];exact hv
  ·cases hv
 ·unfold World.frozen?
  rw[hblk _ ha]
 ·rw[hblk b (Array.getElem?_eq_some_iff.1 hb).1];exact hb
end Go.AM
end
section
namespace Go.Proofs
open Go.Shelf
def Tryz.vh:Go.Shelf.Ren:=⟨fun|174=>93|247=>128|245=>129|287=>152|279=>153|280=>154|281=>155|282=>156|321=>177|322=>178|316=>179|171=>181|205=>180|243=>191|246=>194|283=>197|284=>198|285=>199|286=>200|129=>203|317=>202|318=>204|319=>205|320=>206|337=>207|338=>208|n=>n,fun|9=>9|3=>3|2=>2|75=>224|85=>225|4=>4|167=>270|5=>5|53=>271|175=>272|46=>266|168=>274|37=>248|0=>0|210=>293|21=>21|127=>300|145=>303|143=>301|171=>309|173=>312|212=>318|51=>286|20=>20|213=>319|232=>322|233=>323|80=>186|n=>n,fun|15=>1|16=>2|17=>5|18=>6|19=>7|n=>n⟩
theorem Tryz.G7:Go.Proofs.LaysC.n174 Tryz.prog Tryz.vh:={
 mixed:=by kernel_rfl
 f129:=Tryz.func203.trans (congrArg some (by kernel_rfl))
 f171:=Tryz.func181.trans (congrArg some (by kernel_rfl))
 f174:=Tryz.func93.trans (congrArg some (by kernel_rfl))
 f205:=Tryz.func180.trans (congrArg some (by kernel_rfl))
 f243:=Tryz.func191.trans (congrArg some (by kernel_rfl))
 f245:=Tryz.func129.trans (congrArg some (by kernel_rfl))
 f246:=Tryz.func194.trans (congrArg some (by kernel_rfl))
 f247:=Tryz.func128.trans (congrArg some (by kernel_rfl))
 f279:=Tryz.func153.trans (congrArg some (by kernel_rfl))
 f280:=Tryz.func154.trans (congrArg some (by kernel_rfl))
 f281:=Tryz.func155.trans (congrArg some (by kernel_rfl))
 f282:=Tryz.func156.trans (congrArg some (by kernel_rfl))
 f283:=Tryz.func197.trans (congrArg some (by kernel_rfl))
 f284:=Tryz.func198.trans (congrArg some (by kernel_rfl))
 f285:=Tryz.func199.trans (congrArg some (by kernel_rfl))
 f286:=Tryz.func200.trans (congrArg some (by kernel_rfl))
 f287:=Tryz.func152.trans (congrArg some (by kernel_rfl))
 f316:=Tryz.func179.trans (congrArg some (by kernel_rfl))
 f317:=Tryz.func202.trans (congrArg some (by kernel_rfl))
 f318:=Tryz.func204.trans (congrArg some (by kernel_rfl))
 f319:=Tryz.func205.trans (congrArg some (by kernel_rfl))
 f320:=Tryz.func206.trans (congrArg some (by kernel_rfl))
 f321:=Tryz.func177.trans (congrArg some (by kernel_rfl))
 f322:=Tryz.func178.trans (congrArg some (by kernel_rfl))
 f337:=Tryz.func207.trans (congrArg some (by kernel_rfl))
 f338:=Tryz.func208.trans (congrArg some (by kernel_rfl))
 t0:=Tryz.underlying0
 a0:=Tryz.isAgg0
 z0:=Tryz.sizeOf0
 v0:=Tryz.zeroValue0
 t2:=Tryz.underlying2
 a2:=Tryz.isAgg2
 z2:=Tryz.sizeOf2
 v2:=Tryz.zeroValue2
 t3:=Tryz.underlying3
 a3:=Tryz.isAgg3
 z3:=Tryz.sizeOf3
 v3:=Tryz.zeroValue3
 t4:=Tryz.underlying4
 a4:=Tryz.isAgg4
 z4:=Tryz.sizeOf4
 v4:=Tryz.zeroValue4
 t5:=Tryz.underlying5
 a5:=Tryz.isAgg5
 z5:=Tryz.sizeOf5
 v5:=Tryz.zeroValue5
 t9:=Tryz.underlying9
 a9:=Tryz.isAgg9
 z9:=Tryz.sizeOf9
 v9:=Tryz.zeroValue9
 t20:=Tryz.underlying20
 a20:=Tryz.isAgg20
 z20:=Tryz.sizeOf20
 v20:=Tryz.zeroValue20
 t21:=Tryz.underlying21
 a21:=Tryz.isAgg21
 z21:=Tryz.sizeOf21
 v21:=Tryz.zeroValue21
 t37:=Tryz.underlying248
 a37:=Tryz.isAgg248
 z37:=Tryz.sizeOf248
 v37:=Tryz.zeroValue248
 t46:=Tryz.underlying266
 a46:=Tryz.isAgg266
 z46:=Tryz.sizeOf266
 v46:=Tryz.zeroValue266
 t51:=Tryz.underlying286
 a51:=Tryz.isAgg286
 z51:=Tryz.sizeOf286
 v51:=Tryz.zeroValue286
 t53:=Tryz.underlying271
 a53:=Tryz.isAgg271
 z53:=Tryz.sizeOf271
 v53:=Tryz.zeroValue271
 t75:=Tryz.underlying224
 a75:=Tryz.isAgg224
 z75:=Tryz.sizeOf224
 v75:=Tryz.zeroValue224
 t85:=Tryz.underlying225
 a85:=Tryz.isAgg225
 z85:=Tryz.sizeOf225
 v85:=Tryz.zeroValue225
 t127:=Tryz.underlying300
 a127:=Tryz.isAgg300
 z127:=Tryz.sizeOf300
 v127:=Tryz.zeroValue300
 t143:=Tryz.underlying301
 a143:=Tryz.isAgg301
 z143:=Tryz.sizeOf301
 v143:=Tryz.zeroValue301
 t145:=Tryz.underlying303
 a145:=Tryz.isAgg303
 z145:=Tryz.sizeOf303
 v145:=Tryz.zeroValue303
 t167:=Tryz.underlying270
 a167:=Tryz.isAgg270
 z167:=Tryz.sizeOf270
 v167:=Tryz.zeroValue270
 t168:=Tryz.underlying274
 a168:=Tryz.isAgg274
 z168:=Tryz.sizeOf274
 v168:=Tryz.zeroValue274
 t171:=Tryz.underlying309
 a171:=Tryz.isAgg309
 z171:=Tryz.sizeOf309
 v171:=Tryz.zeroValue309
 t173:=Tryz.underlying312
 a173:=Tryz.isAgg312
 z173:=Tryz.sizeOf312
 v173:=Tryz.zeroValue312
 t175:=Tryz.underlying272
 a175:=Tryz.isAgg272
 z175:=Tryz.sizeOf272
 v175:=Tryz.zeroValue272
 t210:=Tryz.underlying293
 a210:=Tryz.isAgg293
 z210:=Tryz.sizeOf293
 v210:=Tryz.zeroValue293
 t212:=Tryz.underlying318
 a212:=Tryz.isAgg318
 z212:=Tryz.sizeOf318
 v212:=Tryz.zeroValue318
 t213:=Tryz.underlying319
 a213:=Tryz.isAgg319
 z213:=Tryz.sizeOf319
 t232:=Tryz.underlying322
 a232:=Tryz.isAgg322
 z232:=Tryz.sizeOf322
 v232:=Tryz.zeroValue322
 t233:=Tryz.underlying323
 a233:=Tryz.isAgg323
 z233:=Tryz.sizeOf323
 v233:=Tryz.zeroValue323
 g15:=by kernel_rfl
 g16:=by kernel_rfl
 g17:=by kernel_rfl
 g18:=by kernel_rfl
 g19:=by kernel_rfl
 t80:=Tryz.underlying186
 a80:=Tryz.isAgg186
 z80:=Tryz.sizeOf186
 v80:=Tryz.zeroValue186
 i0:=by kernel_rfl
 i2:=by kernel_rfl
 i3:=by kernel_rfl
 i4:=by kernel_rfl
 i5:=by kernel_rfl
 i9:=by kernel_rfl
 i20:=by kernel_rfl
 i21:=by kernel_rfl
 i37:=by kernel_rfl
 i46:=by kernel_rfl
 i51:=by kernel_rfl
 i53:=by kernel_rfl
 i75:=by kernel_rfl
 i80:=by kernel_rfl
 i85:=by kernel_rfl
 i127:=by kernel_rfl
 i143:=by kernel_rfl
 i145:=by kernel_rfl
 i167:=by kernel_rfl
 i168:=by kernel_rfl
 i171:=by kernel_rfl
 i173:=by kernel_rfl
 i175:=by kernel_rfl
 i210:=by kernel_rfl
 i212:=by kernel_rfl
 i232:=by kernel_rfl
 i233:=by kernel_rfl
 m15:=by kernel_rfl
 m16:=by kernel_rfl
 m17:=by kernel_rfl
 m18:=by kernel_rfl
 m19:=by kernel_rfl
 c0:=by kernel_rfl
 c2:=by kernel_rfl
 c3:=by kernel_rfl
 c4:=by kernel_rfl
 c5:=by kernel_rfl
 c9:=by kernel_rfl
 c20:=by kernel_rfl
 c21:=by kernel_rfl
 c37:=by kernel_rfl
 c46:=by kernel_rfl
 c51:=by kernel_rfl
 c53:=by kernel_rfl
 c75:=by kernel_rfl
 c80:=by kernel_rfl
 c85:=by kernel_rfl
 c127:=by kernel_rfl
 c143:=by kernel_rfl
 c145:=by kernel_rfl
 c167:=by kernel_rfl
 c168:=by kernel_rfl
 c171:=by kernel_rfl
 c173:=by kernel_rfl
 c175:=by kernel_rfl
 c210:=by kernel_rfl
 c212:=by kernel_rfl
 c213:=by kernel_rfl
 c232:=by kernel_rfl
 c233:=by kernel_rfl }
end Go.Proofs
open Go Go.AM Go.Proofs TK TR
set_option maxRecDepth 100000
namespace PA
theorem vV (w:World) (e:TypeId) (t:ByteArray):w.heap.size≤(Lib.bytesWorld w e t).heap.size∧(Lib.bytesWorld w e t).os=w.os∧(Lib.bytesWorld w e t).output=w.output∧∀b,b<w.heap.size→(Lib.bytesWorld w e t).heap[b]?=w.heap[b]?:=by
 refine⟨by rw[Lib.bytesWorld_size];omega,?_,?_,fun b hb=>Lib.bytesWorld_at_old w e t b hb⟩
 ·unfold Lib.bytesWorld;generalize Lib.bytesCells w e t=cs;unfold World.freeze;repeat' split<;>rfl
 ·unfold Lib.bytesWorld;generalize Lib.bytesCells w e t=cs;unfold World.freeze;repeat' split<;>rfl
theorem Jo (ev:Value) (hev:ev=.nilIface∨∃te pe,ev=.iface te pe):QG 2 [ev]:=by
 intro s hs hne;have hbody:lW Tryz.prog 93:=TK.Bl Tryz.func93 rfl (by rfl);refine⟨⟨hbody,rfl⟩,fun g w us hh hbn hlen hrel=>?_⟩
 match us,hlen with
 | [u1,u2,u3],_=>
 have r1:=(hrel 0 u1 _ rfl rfl).pv;have r2:=(hrel 1 u2 _ rfl rfl).pv;have r3:=(hrel 2 u3 _ rfl rfl).pv
 cases r1;cases r2;cases r3
 have hob:=hh.obj 1000000000 (.bK 2 [ev]) (aP ..)
 cases hob with
 |bK _ _ hgl=>
 obtain⟨hown,E,fr,hblk⟩:=hgl
 have fin:∀(w':World) (v:Value) (b:Bool),vM b v→w.heap.size≤w'.heap.size→w'.os=w.os→w'.output=w.output→(∀b,b<w.heap.size→w'.heap[b]?=w.heap[b]?)→∀n:Int,
  ∃v0 g',Ending.returned (.tuple #[.int .i64 n,v])=Ending.returned v0∧aH g' w' (aF [(1000000000,br.bK 2 [ev])]) (some .ret) v0 (.cA [.p (.i .i64 n),.v7 b])∧gj g' w' [(1000000000,br.bK 2 [ev])]∧(∀b ow,g'.own b=some ow→b<w'.heap.size)∧Ext g w g' w':=by
  intro w' v b hv h1 h2 h3 h4 n;refine⟨_,g,rfl,?_,Au hown ⟨E,fr,?_⟩,fun b ow ho=>Nat.lt_of_lt_of_le (hbn b ow ho) h1,Ic h1 h2 h3 h4⟩
  ·refine .cA _ [.int .i64 n,v] _ rfl ?_
   intro j x c hj hc
   match j with
   |0=>cases hj;cases hc;exact .p _ _ _ (.i _ _)
   |1=>cases hj;cases hc;exact .v7 _ _ _ hv
   |j+2=>simp at hj
  ·rw[h4 2 (Array.getElem?_eq_some_iff.1 hblk).1];exact hblk
 unfold Kg;rcases hp:Lib.parseIntB 64 s.data.toList with v|_|_
 ·refine(Any.strconv_ParseInt_10_at64_ok Tryz.G7 s (by omega) v hp w).mono ?_
  rintro e w' ⟨rfl,hw⟩;rcases hw with rfl|⟨t,rfl⟩
  ·exact fin w' .nilIface false rfl (Nat.le_refl _) rfl rfl (fun _ _=>rfl) v
  ·obtain⟨k1,k2,k3,k4⟩:=vV w (Tryz.vh.t 5) t
   exact fin _ .nilIface false rfl k1 k2 k3 k4 v
 ·rw[hp]at hne;cases hne
 ·refine(Any.strconv_ParseInt_10_at64_range Tryz.G7 s (by omega) hp ev w ?_ hev).mono ?_
  ·show w.cell? ⟨2,0,none⟩=some ev
   simp[World.cell?,hblk]
  ·rintro e w' ⟨N,rfl,_,_,hB⟩
   exact fin w' _ true ⟨_,_,rfl⟩ hB.size hB.os hB.output hB.block _
end PA
end
section
open Go Go.AM Go.Proofs TK TR
set_option maxRecDepth 100000
namespace PA
def N1:List AV:=[.p (.s ⟨#[]⟩),.p (.i .i64 0),.cu,.cu,.cu,.cu,.cu,.cu]
theorem gj.MT {g:Gh} {w:World} {h:Heap} (hH:gj g w h) (hbn:∀b ow,g.own b=some ow→b<w.heap.size) (ob:Obj) (hglob:∀l b vs,aG h l=some (.bK b vs)→True):gj (g.new w.heap.size 0 none) (World.push w ob) h:=by
 have hp:∀b,b<w.heap.size→(g.new w.heap.size 0 none).pre b=g.pre b∧(g.new w.heap.size 0 none).own b=g.own b:=fun b hb=>by simp[Gh.new,Nat.ne_of_lt hb]
 have hd:∀l,aF h l→aF h l∧(g.new w.heap.size 0 none).ρ l=g.ρ l:=fun l hl=>⟨hl,rfl⟩
 refine⟨fun l o ho=>?_,fun l o ho hq=>?_,fun l o ho hq=>?_⟩
 ·have hdl:aF h l:=by simp[aF,ho]
  exact(hH.obj l o ho).push hp hd hbn hdl
 ·have this:=hH.own l o ho hq
  show(g.new w.heap.size 0 none).own (g.ρ l)=_;rw[(hp _ (hbn _ _ this)).2];exact this
 ·have this:=hH.own l o ho hq
  show(g.new w.heap.size 0 none).pre (g.ρ l)=_;rw[(hp _ (hbn _ _ this)).1];exact hH.pre l o ho hq
theorem EF (g:Gh) (w:World) (h:Heap) (p q r:Addr) (hH:gj g w h) (hbn:∀b ow,g.own b=some ow→b<w.heap.size):
 CallsD Tryz.prog 42 #[.pointer (some p),.pointer (some q),.pointer (some r)] .returning w fun e u' w'=>e=.returned (.tuple #[])∧u'=.returning∧∃g',gj g' w' h∧(∀l,g'.ρ l=g.ρ l)∧Ext g w g' w':=by
 refine(F5 p q r w).mono ?_;rintro e u' w' ⟨rfl,rfl,rfl⟩
 have hw:(w.alloc (.cells #[.int .i64 0] 148)).setCell ⟨w.heap.size,0,none⟩ (.int .i64 0)=World.push w (.cells #[.int .i64 0] 148 (0,0)):=by
  unfold World.setCell World.alloc World.push
  congr 1
  apply Array.ext_getElem?
  intro i;rw[Array.getElem?_modify]
  by_cases hi:w.heap.size=i
  ·subst hi;simp
  ·rw[if_neg hi]
 rw[hw];exact⟨rfl,rfl,g.new w.heap.size 0 none,gj.MT hH hbn _ (fun _ _ _ _=>trivial),fun _=>rfl,Ext.push (fun b hb=>by simp[Gh.new,Nat.ne_of_lt hb]) (fun a=>gf a) (fun _ _=>rfl)⟩
end PA
end
section
open Go Go.AM Go.Proofs
set_option maxRecDepth 100000
namespace TK
theorem ML (l:Bs):((B l).toList==ByteArray.toList ⟨#[]⟩)=(l==[]):=s8 l []
theorem Jc (l:Bs) (W:List Bs) (b:Bool) (h1:aV Tryz.prog 123 [] (.p (.sl 1 (W.map bE)))) (h2:aV Tryz.prog 122 [.p (.sl 1 (W.map bE)),.p (.s (B l))] (.p (.b b))):
 aV Tryz.prog 84 [.p (.s (B l))] (.p (.b (!(l==[])&&b))):=by
 refine aV.intro (ah Tryz.prog) aC Tryz.func84 rfl (by rfl) (by kernel_rfl) (by show 1≤_;decide) rfl ?_;(conv=>whnf);refine aj ?_ ?_<;>intro h<;>conv=>whnf
 ·rw[ML]at h
  refine jA h1 ?_;(conv=>whnf);refine jA h2 ?_;(conv=>whnf);exact .inl (pb (by rw[h];rfl))
 ·rw[ML]at h
  exact .inl (pb (by rw[h];rfl))
theorem Ix (l:Bs):aV Tryz.prog 84 [.p (.s (B l))] (.p (.b (MR l))):=
 Jc l sx _ xw (Fs sx l (by rw[sx,AE];exact Nat.lt_of_le_of_lt (Nat.succ_le_succ (Aa _ _)) (by decide)))
end TK
end
section
open Go Go.AM Go.Proofs
set_option maxRecDepth 100000
end
section
open Go Go.AM Go.Proofs
set_option maxRecDepth 100000
end
section
open Go Go.AM Go.Proofs
set_option maxRecDepth 100000
end
section
open Go Go.AM Go.Proofs
set_option maxRecDepth 100000
end
section
open Go Go.AM Go.Proofs
set_option maxRecDepth 100000
end
section
open Go Go.AM Go.Proofs
set_option maxRecDepth 100000
end
section
open Go Go.AM Go.Proofs
set_option maxRecDepth 100000
end
section
open Go Go.AM Go.Proofs
set_option maxRecDepth 100000
end
section
open Go Go.AM Go.Proofs
set_option maxRecDepth 100000
end
section
open Go Go.AM Go.Proofs
set_option maxRecDepth 100000
end
section
open Go Go.AM Go.Proofs
set_option maxRecDepth 100000
namespace TR
def wG (p:oH):List AV:=[.p (.s p.name),.p (.i .i64 p.ver),.p (.sl 3 (p.uses.map ko)),.p (.sl 3 (p.datas.map kg)),.p (.sl 2 (p.traits.map kj)),.p (.sl 3 (p.impls.map hY)),.p (.sl 15 (p.funcs.map cY)),.p (.sl 14 (p.actors.map gM))]
end TR
end
section
open Go Go.AM Go.Proofs TK TR
set_option maxRecDepth 100000
end
section
open Go Go.AM Go.Proofs TK TR
set_option maxRecDepth 100000
end
section
namespace Go.AM
def over (a:Act) (ds:List Deferred):Act:={ a with defers:=a.defers++ds }
theorem mL (a:Act) (ds:List Deferred):(over a ds).eval=a.eval:=by
 funext x
 cases x<;>rfl
theorem fq (a:Act) (ds:List Deferred) (d:Option Tmp) (v:Value):(over a ds).put d v=over (a.put d v) ds:=by
 cases d<;>rfl
def MI (ds:List Deferred) (Q:Exit→Act→World→Prop):Exit→Act→World→Prop:=fun x a w=>∃a0,a=over a0 ds∧Q x a0 w
theorem LetsOut.over {ds:List Deferred} {Q:Exit→Act→World→Prop} (h:LetsOut Q):LetsOut (MI ds Q):=by
 obtain⟨a,w,h⟩:=h;exact⟨AM.over a ds,w,a,rfl,h⟩
theorem gr {P:Program} {ops:Array Oper} {Q:Exit→Act→World→Prop} (ds:List Deferred):∀(l:List Nat) (a:Act) (w:World),wpOps P ops Q l a w→wpOps P ops (MI ds Q) l (over a ds) w
 | [],a,w,h=>⟨a,rfl,h⟩
 |i::r,a,w,h=>by
  unfold wpOps at h ⊢;split
  ·rename_i hn;rw[hn]at h;exact gr ds r a w h
  ·rename_i o hn
   rw[hn]at h;simp only at h;have ht:(over a ds).tmps=a.tmps:=rfl;rw[ht];split
   ·rename_i hw
    rw[if_pos hw]at h;rcases h with h|⟨h,h'⟩
    ·left
     unfold Oper.wp at *;rw[mL];generalize (execOp a.eval o).run P w=rr at *;unfold Oper.upon at *;split at h
     ·rw[fq];exact gr ds r _ _ h
     ·rw[fq];exact gr ds r _ _ h
     ·rename_i d w'
      have:=gr ds r _ _ h;rw[show({ over a ds with defers:=d::(over a ds).defers }:Act)=over { a with defers:=d::a.defers } ds from rfl,fq];exact this
     ·refine h.mono ?_
      rintro en w' hen
      cases en with
      |returned v=>
       show wpOps P ops _ r ((over a ds).put o.dst v) w';rw[fq];exact gr ds r _ _ hen
      |panicked c=>exact⟨a,rfl,hen⟩
      |outgrown=>exact LetsOut.over hen
     ·refine h.mono (fun v w' h=>?_)
      rw[fq];exact gr ds r _ _ h
     ·exact⟨a,rfl,h⟩
     ·exact h.elim
    ·right
     refine⟨?_,LetsOut.over h'⟩;unfold Oper.asks at *;rw[mL];exact h
   ·rename_i hw
    rw[if_neg hw]at h;rw[fq];exact gr ds r _ _ h
theorem Io {P:Program} {ops:Array Oper} {Q:Exit→Act→World→Prop} (ds:List Deferred) {i:Nat} {next next':Act→World→Prop} (hn':∀a w,next a w→next' (over a ds) w) (a:Act) (w:World) (h:wpOp P ops Q i next a w):wpOp P ops (MI ds Q) i next' (over a ds) w:=by
 unfold wpOp at h ⊢;split
 ·rename_i hn;rw[hn]at h;exact hn' a w h
 ·rename_i o hn
  rw[hn]at h;simp only at h;have ht:(over a ds).tmps=a.tmps:=rfl;rw[ht];split
  ·rename_i hw
   rw[if_pos hw]at h;rcases h with h|⟨h,h'⟩
   ·left
    unfold Oper.wp at *;rw[mL];generalize (execOp a.eval o).run P w=rr at *;unfold Oper.upon at *;split at h
    ·rw[fq];exact hn' _ _ h
    ·rw[fq];exact hn' _ _ h
    ·rename_i d w'
     have:=hn' _ _ h;rw[show({ over a ds with defers:=d::(over a ds).defers }:Act)=over { a with defers:=d::a.defers } ds from rfl,fq];exact this
    ·refine h.mono ?_
     rintro en w' hen
     cases en with
     |returned v=>
      show next' ((over a ds).put o.dst v) w';rw[fq];exact hn' _ _ hen
     |panicked c=>exact⟨a,rfl,hen⟩
     |outgrown=>exact LetsOut.over hen
    ·refine h.mono (fun v w' h=>?_)
     rw[fq];exact hn' _ _ h
    ·exact⟨a,rfl,h⟩
    ·exact h.elim
   ·right
    refine⟨?_,LetsOut.over h'⟩;unfold Oper.asks at *;rw[mL];exact h
  ·rename_i hw
   rw[if_neg hw]at h;rw[fq];exact hn' _ _ h
theorem yl {P:Program} {md:Region.Mode} {ops:Array Oper} {Q:Exit→Act→World→Prop} (ds:List Deferred):∀(fuel:Nat) (listed:Array Bool) (a:Act) (w:World),wpAny P md ops Q fuel listed a w→wpAny P md ops (MI ds Q) fuel listed (over a ds) w
 |0,_,a,_,h=>⟨h.1,a,rfl,h.2⟩
 |fuel+1,_,a,_,h=>⟨fun hr=>⟨a,rfl,h.1 hr⟩,fun i hi=>Io ds (fun a w h=>yl ds fuel _ a w h) _ _ (h.2 i hi)⟩
section
variable {P:Program} {ty:Nat→Option TI} {n:Nat}
def H9 (P:Program) (n:Nat) (ds:List Deferred) (c:Code) (K:Exit→Env→Heap→Prop) (e:Env) (h:Heap):Prop:=
 ∀g0 w0 g w a,cp g w n a e h→Ext g0 w0 g w→c.wp P (MI ds (Cm n K g0 w0)) (over a ds) w
theorem jf (hty:bz P ty) (aC:P.follows .mixedOrders=true) (ds:List Deferred):∀(c:Code) (K:Exit→Env→Heap→Prop) (e:Env) (h:Heap),bF n c=true→FN ty (dj P) (fun _ _ _ _=>False) c K e h→H9 P n ds c K e h
 |.skip,K,e,h,_,hk=>fun g0 w0 g w a s hE=>wp_skip (Q:=MI ds (Cm n K g0 w0)) ⟨a,rfl,g,e,h,hk,s,hE⟩
 |.region id ops false,K,e,h,hok,hk=>fun g0 w0 g w a s hE=>by
  refine wp_region ?_;rw[List.range_eq_range'];refine gr ds _ _ _ ?_;have:=ld hty (by simpa[bF] using hok) ops.toList 0 e h g w a (fun j=>by simp) hk s hE;simpa using this
 |.region id ops true,K,e,h,hok,hk=>fun g0 w0 g w a s hE=>by
  exact wp_region_any aC (yl ds _ _ _ _ (DN hty (by simpa[bF] using hok) hk s hE))
 |.seq x y,K,e,h,hok,hk=>fun g0 w0 g w a s hE=>by
  have hok:bF n x=true∧bF n y=true:=by simpa[bF] using hok
  refine wp_seq (wp_mono (jf hty aC ds x _ e h hok.1 hk g0 w0 g w a s hE) ?_);intro ex a' w' hq
  cases ex with
  |normal=>
   obtain⟨a',rfl,g',e',h',hk',s',hE'⟩:=hq;exact jf hty aC ds y K e' h' hok.2 hk' g0 w0 g' w' a' s' hE'
  |_=>exact hq
 |.cond c x y,K,e,h,hok,hk=>fun g0 w0 g w a s hE=>by
  have hok:bF n x=true∧bF n y=true:=by simpa[bF] using hok
  have hk:(match Go.AM.ev e c with|.p (.b g)=>kR g (FN ty (dj P) (fun _ _ _ _=>False) x K e h) (FN ty (dj P) (fun _ _ _ _=>False) y K e h)|_=>ai "cond"):=hk;split at hk
  ·rename_i b hb
   obtain⟨_,r⟩:=s.ev c;rw[hb]at r;refine wp_cond (by rw[mL];exact r.bool) ?_
   cases b with
   |true=>exact jf hty aC ds x K e h hok.1 hk g0 w0 g w a s hE
   |false=>exact jf hty aC ds y K e h hok.2 hk g0 w0 g w a s hE
  ·exact hk.elim
 |.block id c,K,e,h,hok,hk=>fun g0 w0 g w a s hE=>by
  refine wp_block (wp_mono (jf hty aC ds c _ e h (by simpa[bF] using hok) hk g0 w0 g w a s hE) ?_);intro ex a' w' hq
  cases ex with
  |exit i=>
   obtain⟨a',rfl,g',e',h',hk',s',hE'⟩:=hq;simp only[Exit.inBlock]
   by_cases q:i=id
   ·subst q
    rw[if_pos rfl];simp only[lH]at hk';exact⟨a',rfl,g',e',h',hk',s',hE'⟩
   ·rw[if_neg q]
    simp only[beq_false q]at hk';exact⟨a',rfl,g',e',h',hk',s',hE'⟩
  |_=>exact hq
 |.exit id,K,e,h,_,hk=>fun g0 w0 g w a s hE=>wp_exit (Q:=MI ds (Cm n K g0 w0)) ⟨a,rfl,g,e,h,hk,s,hE⟩
 |.ret,K,e,h,_,hk=>fun g0 w0 g w a s hE=>wp_ret (Q:=MI ds (Cm n K g0 w0)) ⟨a,rfl,g,e,h,hk,s,hE⟩
 |.loop c,K,e,h,_,hk=>hk.elim
 |.rangeFunc ..,K,e,h,_,hk=>hk.elim
 |.scope _,K,e,h,_,hk=>hk.elim
 |.label _,K,e,h,_,hk=>hk.elim
 |.goto _,K,e,h,_,hk=>hk.elim
 |.refuse _,K,e,h,_,hk=>hk.elim
end
end Go.AM
end
section
namespace Go.AM
section
variable {P:Program} {ty:Nat→Option TI} {n:Nat}
theorem J4 (hty:bz P ty) {fn:Func} {r:AV} {h':Heap} (hr:(r.within (bB (aO h'))&&mD (bB (aO h')) h')=true) {g g1:Gh} {w w':World} {a':Act} {e1:Env} {h1:Heap} (s1:cp g1 w' n a' e1 h1) (hE1:Ext g w g1 w')
 (hq:match lO ty fn.results.toList fn.resultTypes.toList e1 h1 with|some v=>xU v r∧mC h1 h'|none=>False):∃v,(results fn a'.tmps).run P w'=.ok v w'∧
   (∃v1 g',Ending.returned v=.returned v1∧aH g' w' (aF h') (some .ret) v1 r∧gj g' w' h'∧(∀b ow,g'.own b=some ow→b<w'.heap.size)∧Ext g w g' w'):=by
 simp only[Bool.and_eq_true]at hr;obtain⟨hr1,hr2⟩:=hr;split at hq
 ·rename_i x hx
  obtain⟨hq,hheap⟩:=hq;obtain⟨v,hrun,t,hv⟩:=nh (P:=P) hty s1 hx
  have hv:aH g1 w' (aF h1) (some (.slot t)) v r:=by
   rcases hq with rfl|rfl
   ·exact hv
   ·exact hv.copy
  have hdom:∀l,bB (aO h') l=true→aF h' l:=fun l hl=>by
   obtain⟨ob,hob⟩:=dO h' l (iP _ _ hl);unfold aF;rw[hob];rfl
  let g':Gh:={ pre:=g1.pre,own:=fun b=>bT h' t (g1.own b),ρ:=g1.ρ,σ:=g1.σ,sown:=g1.sown }
  have conv:∀{ow:Option aY} {u:Value} {y:AV},(∀q,ow=some q→bT h' t (some q)=some q)→aH g1 w' (aF h1) ow u y→y.within (bB (aO h'))=true→aH g' w' (aF h') ow u y:=by
   intro ow u y hq r0 hin;have r1:=r0.within (dom':=aF h') hdom hin;exact aH.keep (g:=g1) (g':=g') (w:=w') (w':=w') (fun _ _ _ hv=>hv) (fun l hl=>⟨hl,rfl⟩) (fun l cs E _ hb=>⟨cs,E,hb,rfl⟩) (fun q b e1 ho=>⟨by show bT h' t (g1.own b)=some q;rw[ho];exact hq q e1,rfl,rfl⟩) r1
  refine⟨v,hrun,v,g',rfl,?_,⟨fun l ob hl=>?_,fun l ob hl hsl=>?_,fun l ob hl hsl=>?_⟩,fun b q hq=>?_,?_⟩
  ·cases r with
   |so sz xs=>
    cases hv with
    |full _ a _ _ hz hp=>exact .full _ a sz xs hz hp
    |own _ a cap _ _ cs E hz hp ho hpre hb' hs'=>exact .own .ret a cap sz xs cs E hz hp (by show bT h' t (g1.own a.block)=_;rw[ho];simp[bT]) hpre hb' hs'
   |_=>exact(conv (ow:=none) (fun _ q=>by cases q) (hv.bW (fun _ _ q=>by cases q)) hr1).bW (fun _ _ q=>by cases q)
  ·obtain⟨ob0,q1,q2⟩:=eI h' hheap l ob hl
   have hin:=lf h' hr2 l ob hl;have hkl:=eM _ _ _ hl
   cases (s1.heap.obj l ob0 q1).le q2 with
   |cells cs vs' E hb' hlen' hxx h1'=>exact .cells cs vs' E hb' hlen' (fun j u c q3 q4=>conv (fun q e1=>by cases e1;simp[bT,hkl]) (hxx j u c q3 q4) (bZ _ cs (by simpa[br.within] using hin) j c q4)) h1'
   |arr xs vs' E hb' hlen' hxx h1'=>exact .arr xs vs' E hb' hlen' hxx h1'
   |store T3 o3 sp3 nx3 z3 M3 hst=>exact .store T3 o3 sp3 nx3 z3 M3 (hst.mono (fun _ _ _ q=>q) (fun bb hb2=>⟨by show bT h' t (g1.own bb)=_;rw[hb2];simp[bT,hkl],rfl,rfl⟩) hst.sown)
   |bK gb gvs hgl=>exact gG.kP hgl (fun h1 _ _=>⟨rfl,by show bT h' t (g1.own gb)=none;rw[h1];rfl⟩)
  ·obtain⟨ob0,q1,q2⟩:=eI h' hheap l ob hl
   show bT h' t (g1.own (g1.ρ l))=_;rw[s1.heap.own l ob0 q1 (q2.dK hsl)];simp[bT,eM _ _ _ hl]
  ·obtain⟨ob0,q1,q2⟩:=eI h' hheap l ob hl
   exact s1.heap.pre l ob0 q1 (q2.dK hsl)
  ·have hq:bT h' t (g1.own b)=some q:=hq
   cases hg:g1.own b with
   |none=>rw[hg]at hq;simp[bT]at hq
   |some q'=>exact s1.bnd b q' hg
  ·exact⟨hE1.size,hE1.os,hE1.out,hE1.bR,fun b hb hn=>⟨(hE1.kept b hb hn).1,(hE1.kept b hb hn).2.1,by show bT h' t (g1.own b)=none;rw[(hE1.kept b hb hn).2.2];rfl⟩,hE1.tj,hE1.frz',hE1.ρk,hE1.siz⟩
 ·exact hq.elim
theorem iN.andThen {c rest:Code} {K:Exit→Env→Heap→Prop} {e:Env} {h:Heap} (hk:iN P n c K e h) {Q:Exit→Act→World→Prop} {g0 g:Gh} {w0 w:World} {a:Act} (s:cp g w n a e h) (hE:Ext g0 w0 g w)
 (hn:∀g' w' a' e' h',K .normal e' h'→cp g' w' n a' e' h'→Ext g0 w0 g' w'→rest.wp P Q a' w') (hx:∀x g' w' a' e' h',x≠.normal→K x e' h'→cp g' w' n a' e' h'→Ext g0 w0 g' w'→Q x a' w'):(Code.seq c rest).wp P Q a w:=by
 refine wp_seq (wp_mono (hk g0 w0 g w a s hE) ?_);rintro x a' w' ⟨g',e',h',hk',s',hE'⟩
 cases x with
 |normal=>exact hn g' w' a' e' h' hk' s' hE'
 |_=>exact hx _ g' w' a' e' h' (by intro q;cases q) hk' s' hE'
theorem cp.Pj {g:Gh} {w:World} {a:Act} {e:Env} {h:Heap} (s:cp g w n a e h) {lv ll:List Nat} {vals:List AV} {objs:List br} (ha:KW lv ll vals objs e h):cp g w n a (lv.zip vals) (ll.zip objs):=by
 have:=s.mask (lv:=lv) (ll:=ll) ha.1 (by rw[ha.2.1];exact ha.2.2.1) ha.2.2.2;rw[ha.2.1]at this;exact this
theorem H9.andThen {c rest:Code} {ds:List Deferred} {K:Exit→Env→Heap→Prop} {e:Env} {h:Heap} (hk:H9 P n ds c K e h) {Q:Exit→Act→World→Prop} {g0 g:Gh} {w0 w:World} {a:Act} (s:cp g w n a e h) (hE:Ext g0 w0 g w)
 (hn:∀g' w' a' e' h',K .normal e' h'→cp g' w' n a' e' h'→Ext g0 w0 g' w'→rest.wp P Q (over a' ds) w') (hx:∀x g' w' a' e' h',x≠.normal→K x e' h'→cp g' w' n a' e' h'→Ext g0 w0 g' w'→Q x (over a' ds) w'):(Code.seq c rest).wp P Q (over a ds) w:=by
 refine wp_seq (wp_mono (hk g0 w0 g w a s hE) ?_);rintro x a' w' ⟨a',rfl,hq⟩
 cases x with
 |normal=>
  obtain⟨g',e',h',hk',s',hE'⟩:=hq;exact hn g' w' a' e' h' hk' s' hE'
 |_=>
  obtain⟨g',e',h',hk',s',hE'⟩:=hq;exact hx _ g' w' a' e' h' (by intro q;cases q) hk' s' hE'
theorem H9.end {c:Code} {ds:List Deferred} {K:Exit→Env→Heap→Prop} {e:Env} {h:Heap} (hk:H9 P n ds c K e h) {Q:Exit→Act→World→Prop} {g0 g:Gh} {w0 w:World} {a:Act} (s:cp g w n a e h) (hE:Ext g0 w0 g w)
 (hx:∀x g' w' a' e' h',K x e' h'→cp g' w' n a' e' h'→Ext g0 w0 g' w'→Q x (over a' ds) w'):c.wp P Q (over a ds) w:=by
 refine wp_mono (hk g0 w0 g w a s hE) ?_;rintro x a' w' ⟨a',rfl,hq⟩
 cases x with
 |_=>
  obtain⟨g',e',h',hk',s',hE'⟩:=hq;exact hx _ g' w' a' e' h' hk' s' hE'
end
end Go.AM
end
