/- Contracts, and the law, for every input. No conditions. -/
import Derived.Test.YtdmopjgjhfhfdaaGreatDoorChecked
import Derived.Test.YtdmopjgjhfhfdaaGreatDoorTKD
import Derived.Lib.Strings
import Derived.Lib.Slices
import Derived.Lib.Walk
import Derived.Lib.Bytealg
open Go Go.AM Go.Proofs
set_option maxRecDepth 100000
namespace TK
theorem hmix:Tryz.prog.follows .mixedOrders=true:=by kernel_rfl
theorem pure_of {f:Nat} {args:List AV} {vs:List Value} {r:Value} {y:PV} (hb:hasBody Tryz.prog f) (hv:∀g w us,us.length=args.length→(∀(j:Nat) (v:Value) (x:AV),us[j]?=some v→args[j]?=some x→VRel g w (fun _=>False) none v x)→us=vs)
 (hr:∀M,PRel M r y) (h:∀w,Calls Tryz.prog f vs.toArray w fun e w'=>e=.returned r∧w'=w):APure Tryz.prog f args (.p y):=by
 refine⟨hb,fun g w us hno hsw hl hrel=>?_⟩;obtain rfl:=hv g w us hl hrel;refine(h w).mono ?_;rintro e w' ⟨rfl,rfl⟩;exact⟨r,g,rfl,.p _ _ _ (hr _),Ext.refl g w'⟩
theorem vals2 {a b:PV} {x y:Value} (h1:∀M v,PRel M v a→v=x) (h2:∀M v,PRel M v b→v=y):∀(g:Gh) (w:World) (us:List Value),us.length=[AV.p a,AV.p b].length→(∀(j:Nat) (v:Value) (z:AV),us[j]?=some v→[AV.p a,AV.p b][j]?=some z→VRel g w (fun _=>False) none v z)→us=[x,y]:=by
 intro g w us hl hr
 match us,hl with
 | [u,v],_=>
   have q1:=(hr 0 u _ rfl rfl).pv;have q2:=(hr 1 v _ rfl rfl).pv;rw[h1 _ _ q1,h2 _ _ q2]
theorem body_of {f:Nat} {fn:Func} {c:Code} (hf:Tryz.prog.funcs[f]?=some fn) (hb:fn.body=some c) (hn:(fn.name== "runtime.NumGoroutine")=false):hasBody Tryz.prog f:=⟨fn,c,hf,hb,hn⟩
set_option maxHeartbeats 1000000 in
theorem idxByte_run (s:ByteArray) (c:Int) (w:World):
 Calls Tryz.prog 145 #[.string s,.int .u8 c] w fun e w'=>e=.returned (.int .i64 (Lib.indexByte s.data.toList c.toNat.toUInt8))∧w'=w:=by
 go_enter Tryz.func145,Tryz.ntmps145
 go_wp2
 rw[run_callFunc_extern Tryz.func173 (by kernel_rfl) (by kernel_rfl) (by kernel_rfl) (e:=Extern.BytealgIndexByte.indexByte) (by kernel_rfl),Lib.run_indexByteString];simp only[Result.andThen];rw[Oper.upon_value]
 go_wp2
 go_ret
 exact⟨rfl,rfl⟩
set_option maxHeartbeats 1000000 in
theorem count_run (s:ByteArray) (c:UInt8) (w:World):
 Calls Tryz.prog 52 #[.string s,.string ⟨#[c]⟩] w fun e w'=>e=.returned (.int .i64 (Lib.countByte s.data.toList c))∧w'=w:=by
 go_enter Tryz.func52,Tryz.ntmps52
 go_wp2
 rw[run_callFunc_extern Tryz.func79 (by kernel_rfl) (by kernel_rfl) (by kernel_rfl) (e:=Extern.BytealgCount.count) (by kernel_rfl),Lib.run_countString];simp only[Result.andThen];rw[Oper.upon_value]
 go_wp2
 go_ret
 exact⟨rfl,rfl⟩
theorem idxB0_spec (l:Bs) (c:UInt8):APure Tryz.prog 145 [.p (.s (B l)),.p (.i .u8 c.toNat)] (.p (.i .i64 (Lib.indexByte l c))):=by
 refine pure_of (vs:=[.string (B l),.int .u8 c.toNat]) (r:=.int .i64 (Lib.indexByte l c)) (body_of Tryz.func145 rfl (by rfl)) (vals2 (fun M v h=>by cases h;rfl) (fun M v h=>by cases h;rfl)) (fun M=>.i _ _) (fun w=>?_);have:=idxByte_run (B l) c.toNat w;rw[B_data]at this;simpa using this
theorem count_spec (l:Bs) (c:UInt8):APure Tryz.prog 52 [.p (.s (B l)),.p (.s (B [c]))] (.p (.i .i64 (Lib.countByte l c))):=by
 refine pure_of (vs:=[.string (B l),.string (B [c])]) (r:=.int .i64 (Lib.countByte l c)) (body_of Tryz.func52 rfl (by rfl)) (vals2 (fun M v h=>by cases h;rfl) (fun M v h=>by cases h;rfl)) (fun M=>.i _ _) (fun w=>?_);have:=count_run (B l) c w;rw[B_data]at this;exact this
theorem idxB_spec (l:Bs) (c:UInt8):APure Tryz.prog 176 [.p (.s (B l)),.p (.i .u8 c.toNat)] (.p (.i .i64 (Lib.indexByte l c))):=by
 have h:=idxB0_spec l c;generalize Lib.indexByte l c=q at h;refine APure.intro (tyOf_ok Tryz.prog) hmix Tryz.func176 rfl (by rfl) (by kernel_rfl) (by show 2≤_;decide) rfl ?_;(conv=>whnf);refine apc h ?_;(conv=>whnf);exact .inl rfl
theorem index0_spec (l:Bs) (c:UInt8):APure Tryz.prog 119 [.p (.s (B l)),.p (.s (B [c]))] (.p (.i .i64 (Lib.indexByte l c))):=by
 have h:=idxB0_spec l c
 by_cases hl:l=[c]
 ·subst hl
  rw[show Lib.indexByte [c] c=0 by simp[Lib.indexByte]];refine APure.intro (tyOf_ok Tryz.prog) hmix Tryz.func119 rfl (by rfl) (by kernel_rfl) (by show 2≤_;decide) rfl ?_;(conv=>whnf);refine ast (show((B [c]).toList==(B [c]).toList)=true by rw[B_beq];simp) ?_;(conv=>whnf);exact .inl rfl
 ·generalize Lib.indexByte l c=q at h
  refine APure.intro (tyOf_ok Tryz.prog) hmix Tryz.func119 rfl (by rfl) (by kernel_rfl) (by show 2≤_;decide) rfl ?_;(conv=>whnf);refine asf (show((B [c]).toList==(B l).toList)=false by rw[B_beq];simp only[beq_eq_false_iff_ne];exact fun h=>hl h.symm) ?_;(conv=>whnf);refine asix (l:=[c]) (k:=0) (c:=c) rfl rfl ?_;(conv=>whnf);refine apc h ?_;(conv=>whnf);exact .inl rfl
theorem index_spec (l:Bs) (c:UInt8):APure Tryz.prog 80 [.p (.s (B l)),.p (.s (B [c]))] (.p (.i .i64 (Lib.indexByte l c))):=by
 have h:=index0_spec l c;generalize Lib.indexByte l c=q at h;refine APure.intro (tyOf_ok Tryz.prog) hmix Tryz.func80 rfl (by rfl) (by kernel_rfl) (by show 2≤_;decide) rfl ?_;(conv=>whnf);refine apc h ?_;(conv=>whnf);exact .inl rfl
theorem containsB_spec (l:Bs) (c:UInt8):APure Tryz.prog 125 [.p (.s (B l)),.p (.s (B [c]))] (.p (.b (decide (Lib.indexByte l c≥0)))):=by
 have h:=index_spec l c;generalize Lib.indexByte l c=q at h;refine APure.intro (tyOf_ok Tryz.prog) hmix Tryz.func125 rfl (by rfl) (by kernel_rfl) (by show 2≤_;decide) rfl ?_;(conv=>whnf);refine apc h ?_;(conv=>whnf);exact .inl rfl
end TK
open Go Go.AM Go.Proofs
set_option maxRecDepth 100000
namespace TK
theorem idx_ge0 (l:Bs) (c:UInt8) (h:0<l.count c):∃m:Nat,Lib.indexByte l c=m∧m<l.length∧splitF c l=l.take m::splitF c (l.drop (m+1))∧(l.drop (m+1)).count c+1=l.count c:=by
 induction l with
 |nil=>simp at h
 |cons x r ih=>
  rw[show splitF c (x::r)=bif x==c then []::splitF c r else match splitF c r with|p::ps=>(x::p)::ps | []=>[[x]] from rfl];unfold Lib.indexByte
  cases hx:x==c with
  |true=>
   have e:=eq_of_beq hx;subst e;exact⟨0,by simp,by simp,by simp,by simp⟩
  |false=>
   have hne:x≠c:=by intro e;subst e;simp at hx
   have hc:r.count c=(x::r).count c:=by rw[List.count_cons_of_ne hne]
   obtain⟨m,h1,h2,h3,h4⟩:=ih (by omega);refine⟨m+1,?_,by simp;omega,?_,?_⟩
   ·rw[h1,if_neg (by simp),if_neg (by simp)];omega
   ·rw[h3];rfl
   ·simp only[List.drop_succ_cons];rw[←hc];exact h4
theorem split_none (l:Bs) (c:UInt8) (h:l.count c=0):splitF c l=[l]:=by
 induction l with
 |nil=>rfl
 |cons x r ih=>
  have hne:x≠c:=by intro e;subst e;simp at h
  have hx:(x==c)=false:=by simpa using hne
  rw[splitF,hx,ih (by rw[List.count_cons_of_ne hne]at h;exact h)];rfl
theorem split_len (l:Bs) (c:UInt8):(splitF c l).length=l.count c+1:=by
 induction l with
 |nil=>rfl
 |cons x r ih=>
  rw[splitF]
  cases hx:x==c with
  |true=>have e:=eq_of_beq hx;subst e;simp[ih]
  |false=>
   have hne:x≠c:=by intro e;subst e;simp at hx
   rw[List.count_cons_of_ne hne]
   cases hs:splitF c r with
   |nil=>rw[hs]at ih;simp at ih
   |cons p ps=>rw[hs]at ih;simpa using ih
theorem count_le' (l:Bs) (c:UInt8):l.count c≤l.length:=List.count_le_length
theorem set_mid {α:Type} (a:List α) (x y:α) (b:List α):(a++x::b).set a.length y=a++y::b:=by
 rw[List.set_append_right _ _ (Nat.le_refl _)];simp
theorem set_at {α:Type} (a:List α) (k:Nat) (h:a.length=k) (x y:α) (b:List α):(a++x::b).set k y=a++y::b:=by subst h;exact set_mid a x y b
theorem repl_succ (n:Nat) (h:0<n) (x:PV):List.replicate n x=x::List.replicate (n-1) x:=by
 obtain⟨m,rfl⟩:∃m,n=m+1:=⟨n-1,by omega⟩
 rfl
theorem genSplit_aux (l:Bs) (c:UInt8) (sep:ByteArray) (hl:l.length≤1048576) (RR:List Bs) (hRR:splitF c l=RR) (N:Nat) (hN:l.count c=N)
 (hc:APure Tryz.prog 52 [.p (.s (B l)),.p (.s sep)] (.p (.i .i64 N)))
 (hi:∀r,APure Tryz.prog 80 [.p (.s (B r)),.p (.s sep)] (.p (.i .i64 (Lib.indexByte r c))))
 (hse:(sep.toList==ByteArray.toList ⟨#[]⟩)=false) (hsz:sep.size=1):
 APure Tryz.prog 175 [.p (.s (B l)),.p (.s sep),.p (.i .i64 0),.p (.i .i64 (-1))] (.p (.sl 1 (RR.map eStr))):=by
 have hcl:=count_le' l c;have hR:=split_len l c;rw[hN]at hcl hR;refine APure.intro (tyOf_ok Tryz.prog) hmix Tryz.func175 rfl (by rfl) (by kernel_rfl) (by show 4≤_;decide) rfl ?_;(conv=>whnf);refine asf hse ?_;(conv=>whnf);refine apc hc ?_;(conv=>whnf);have e1:IntKind.i64.wrap ((N:Int)+1)=((N+1:Nat):Int):=by rw[wrap64 (by omega) (by omega)];omega
 have e2:(IntKind.i64.wrap (((B l).size:Int)+1))=((l.length+1:Nat):Int):=by rw[B_size,wrap64 (by omega) (by omega)];omega
 rw[e1,e2,if_neg (by omega)];refine aneed (show _∧_∧((N+1:Nat):Int)*((16:Nat):Int)≤140737488355328 from⟨rfl,by omega,by omega⟩) ?_;(conv=>whnf);have e3:IntKind.i64.wrap (((N+1:Nat):Int)-1)=(N:Int):=by rw[wrap64 (by omega) (by omega)];omega
 refine loopS (tyOf_ok _) hmix (by kernel_rfl) N [0,1,2,3,9,10] [31] (fun k (s:List Bs×Bs)=>[.p (.s (B s.2)),.p (.s sep),.p (.i .i64 0),.p (.i .i64 (IntKind.i64.wrap (((N+1:Nat):Int)-1))),.ar 31,.p (.i .i64 (ix k))])
  (fun k s=>[.arr (s.1.map eStr++List.replicate (N+1-k) (eStr []))]) (fun k s=>s.1.length=k∧RR=s.1++splitF c s.2∧k+s.2.count c=N∧s.2.length≤l.length) ([],l) ⟨rfl,rfl,rfl,rfl⟩ ⟨rfl,by simpa using hRR.symm,by simpa using hN,Nat.le_refl _⟩ ?_
 rintro k s hk ⟨q1,q2,q3,q4⟩;have hkx:ix k=(k:Int):=ix_eq (by omega);(conv=>whnf);refine asplit ?_ ?_<;>intro h1
 ·rw[e3,hkx]at h1
  have hk1:k<N:=by simpa using h1
  obtain⟨m,m1,m2,m3,m4⟩:=idx_ge0 s.2 c (by omega);have hq:=hi s.2;rw[m1]at hq;have u1:IntKind.i64.wrap ((m:Int)+0)=(m:Int):=by rw[wrap64 (by omega) (by omega)];omega
  have u2:IntKind.i64.wrap ((m:Int)+(sep.size:Int))=((m+1:Nat):Int):=by rw[hsz,wrap64 (by omega) (by omega)];omega
  have x1:(B s.2).extract (0:Int).toNat (IntKind.i64.wrap ((m:Int)+0)).toNat=B (s.2.take m):=by rw[u1,B_ext];simp
  have x2:(B s.2).extract (IntKind.i64.wrap ((m:Int)+(sep.size:Int))).toNat (((B s.2).size:Nat):Int).toNat=B (s.2.drop (m+1)):=by
   rw[u2,B_ext,B_size,Int.toNat_natCast,Int.toNat_natCast,List.take_of_length_le (by rw[List.length_drop];exact Nat.le_refl _)]
  (conv=>whnf);refine apc hq ?_;(conv=>whnf);refine aneed (by rw[u1,B_size];omega) ?_;rw[x1];(conv=>whnf);refine aneed (by rw[hkx];exact⟨by omega,by rw[List.length_append,List.length_map,List.length_replicate];omega⟩) ?_;(conv=>whnf);refine aneed (by rw[hkx,List.length_append,List.length_map,List.length_replicate];omega) ?_;(conv=>whnf);refine aneed (by rw[u2,B_size];omega) ?_;rw[x2];(conv=>whnf);refine⟨hk1,(s.1++[s.2.take m],s.2.drop (m+1)),⟨?_,rfl,rfl,rfl⟩,by simp[q1],by rw[q2,m3];simp,(by omega:k+1+(s.2.drop (m+1)).count c=N),by rw[List.length_drop];omega⟩;refine congrArg (fun z=>[some (AObj.arr z)]) ?_;show(s.1.map eStr++List.replicate (N+1-k) (eStr [])).set (ix k).toNat (eStr (s.2.take m))=(s.1++[s.2.take m]).map eStr++List.replicate (N+1-(k+1)) (eStr []);rw[hkx,repl_succ (N+1-k) (by omega),Int.toNat_natCast,set_at _ k (by simp[q1]),show N+1-k-1=N+1-(k+1) by omega];simp
 ·rw[e3,hkx]at h1
  have hk1:k=N:=by simp at h1;omega
  have c0:s.2.count c=0:=by omega
  have hkx2:IntKind.i64.wrap (ix k+1)=((k+1:Nat):Int):=by rw[hkx,wrap64 (by omega) (by omega)];omega
  rw[split_none s.2 c c0]at q2;(conv=>whnf);refine aneed (by rw[hkx];exact⟨by omega,by rw[List.length_append,List.length_map,List.length_replicate];omega⟩) ?_;(conv=>whnf);refine aneed (by rw[hkx,List.length_append,List.length_map,List.length_replicate];omega) ?_
  have hx:(s.1.map eStr++List.replicate (N+1-k) (eStr [])).set (ix k).toNat (eStr s.2)=RR.map eStr:=by
   rw[hkx,repl_succ (N+1-k) (by omega),Int.toNat_natCast,set_at _ k (by simp[q1]),show N+1-k-1=0 by omega,q2];simp
  conv=>whnf
  refine aneed (by
   show IntKind.i64.wrap (ix k+1)=(((s.1.map eStr++List.replicate (N+1-k) (eStr [])).set (ix k).toNat (eStr s.2)).length:Int)
   rw[hx,hkx2,List.length_map,←hRR,hR,hk1]) ?_
  (conv=>whnf);exact .inr (.inr ⟨_,_,rfl,rfl,congrArg (fun z=>AV.p (PV.sl 1 z)) hx.symm⟩)
theorem genSplit_spec (l:Bs) (c:UInt8) (hl:l.length≤1048576):APure Tryz.prog 175 [.p (.s (B l)),.p (.s (B [c])),.p (.i .i64 0),.p (.i .i64 (-1))] (.p (.sl 1 ((splitF c l).map eStr))):=
 genSplit_aux l c (B [c]) hl _ rfl _ rfl (count_spec l c) (fun r=>index_spec r c) (by rw[show(⟨#[]⟩:ByteArray)=B [] from rfl,B_beq];rfl) rfl
end TK
open Go Go.AM Go.Proofs
set_option maxRecDepth 100000
namespace TK
theorem split_spec (l:Bs) (sep:ByteArray) (hs:sep=B [32]) (hl:l.length≤1048576):APure Tryz.prog 150 [.p (.s (B l)),.p (.s sep)] (.p (.sl 1 ((splitF 32 l).map eStr))):=by
 have h:=genSplit_spec l 32 hl;rw[←hs]at h;refine APure.intro (tyOf_ok Tryz.prog) hmix Tryz.func150 rfl (by rfl) (by kernel_rfl) (by show 2≤_;decide) rfl ?_;(conv=>whnf);refine apc h ?_;(conv=>whnf);exact .inl rfl
theorem words_spec:APure Tryz.prog 123 [] (.p (.sl 1 (wordsL.map eStr))):=by
 have h:=split_spec keysL (B [32]) rfl (by decide);rw[show splitF 32 keysL=wordsL from rfl]at h;refine APure.intro (tyOf_ok Tryz.prog) hmix Tryz.func123 rfl (by rfl) (by kernel_rfl) (by show 0≤_;decide) rfl ?_;(conv=>whnf);refine apc h ?_;(conv=>whnf);exact .inl rfl
def idxF (x:Bs):List Bs→Nat→Int
 | [],_=>-1
 |a::r,k=>bif x==a then (k:Int) else idxF x r (k+1)
theorem idxF_ge (x:Bs):∀(l:List Bs) (k:Nat),decide (idxF x l k≥0)=l.contains x
 | [],k=>by simp[idxF]
 |a::r,k=>by
  rw[idxF,List.contains_cons]
  cases h:x==a with
  |true=>simp
  |false=>rw[cond_false,idxF_ge x r (k+1),Bool.false_or]
theorem sidx_spec (l:List Bs) (x:Bs) (hb:l.length<9223372036854775807):APure Tryz.prog 149 [.p (.sl 1 (l.map eStr)),.p (.s (B x))] (.p (.i .i64 (idxF x l 0))):=by
 refine APure.intro (tyOf_ok Tryz.prog) hmix Tryz.func149 rfl (by rfl) (by kernel_rfl) (by show 2≤_;decide) rfl ?_;(conv=>whnf);refine loopS (tyOf_ok _) hmix (by kernel_rfl) l.length [0,1,6,7,8] [] (fun k _=>[.p (.sl 1 (l.map eStr)),.p (.s (B x)),.p (.sl 1 (l.map eStr)),.p (.i .i64 (l.map eStr).length),.p (.i .i64 (ix k))]) (fun _ _=>[]) (fun k _=>idxF x l 0=idxF x (l.drop k) k) () ⟨rfl,rfl,rfl,rfl⟩ rfl ?_;intro k s hk hn;(conv=>whnf);refine asplit ?_ ?_<;>intro h1<;>conv=>whnf
 ·have hk1:=ix_tt h1 (by simp) hk (by omega)
  obtain⟨b,hb1⟩:∃b,l[k]?=some b:=⟨l[k],by simp[hk1]⟩
  rw[drop_cons hb1,idxF]at hn;refine aidxk (x:=eStr b) (by simp[hb1]) (by omega) ?_;(conv=>whnf);refine asplit ?_ ?_<;>intro h2<;>conv=>whnf
  ·rw[B_beq]at h2
   refine .inl (pi ?_);rw[hn,h2,ix_eq (by omega)];rfl
  ·rw[B_beq]at h2
   exact⟨hk1,(),⟨rfl,rfl,rfl,rfl⟩,by rw[hn,h2];rfl⟩
 ·have hk1:=ix_ff h1 (by simp) hk (by omega)
  rw[hk1,List.drop_length,idxF]at hn;exact .inl (pi hn.symm)
theorem scont_aux (l:AV) (x:Bs) (i:Int) (h:APure Tryz.prog 149 [l,.p (.s (B x))] (.p (.i .i64 i))) (hl:∃s xs,l=.p (.sl s xs)):APure Tryz.prog 122 [l,.p (.s (B x))] (.p (.b (decide (i≥0)))):=by
 obtain⟨s,xs,rfl⟩:=hl;refine APure.intro (tyOf_ok Tryz.prog) hmix Tryz.func122 rfl (by rfl) (by kernel_rfl) (by show 2≤_;decide) rfl ?_;(conv=>whnf);refine apc h ?_;(conv=>whnf);exact .inl rfl
theorem scont_spec (l:List Bs) (x:Bs) (hb:l.length<9223372036854775807):APure Tryz.prog 122 [.p (.sl 1 (l.map eStr)),.p (.s (B x))] (.p (.b (l.contains x))):=by
 rw[←idxF_ge x l 0];exact scont_aux _ x _ (sidx_spec l x hb) ⟨_,_,rfl⟩
theorem small_spec (c:UInt8):APure Tryz.prog 105 [.p (vU c)] (.p (.b (smallF c))):=by
 refine APure.intro (tyOf_ok Tryz.prog) hmix Tryz.func105 rfl (by rfl) (by kernel_rfl) (by show 1≤_;decide) rfl ?_;(conv=>whnf);refine asplit ?_ ?_<;>intro h<;>conv=>whnf
 ·exact .inl (pb (by rw[smallF,h];rfl))
 ·exact .inl (pb (by rw[smallF,h];rfl))
theorem cap_spec (c:UInt8):APure Tryz.prog 121 [.p (vU c)] (.p (.b (capF c))):=by
 refine APure.intro (tyOf_ok Tryz.prog) hmix Tryz.func121 rfl (by rfl) (by kernel_rfl) (by show 1≤_;decide) rfl ?_;(conv=>whnf);refine asplit ?_ ?_<;>intro h<;>conv=>whnf
 ·exact .inl (pb (by rw[capF,h];rfl))
 ·exact .inl (pb (by rw[capF,h];rfl))
theorem digit_spec (c:UInt8):APure Tryz.prog 86 [.p (vU c)] (.p (.b (digitF c))):=by
 refine APure.intro (tyOf_ok Tryz.prog) hmix Tryz.func86 rfl (by rfl) (by kernel_rfl) (by show 1≤_;decide) rfl ?_;(conv=>whnf);refine asplit ?_ ?_<;>intro h<;>conv=>whnf
 ·exact .inl (pb (by rw[digitF,h];rfl))
 ·exact .inl (pb (by rw[digitF,h];rfl))
theorem nl_spec (c:UInt8):APure Tryz.prog 56 [.p (vU c)] (.p (.b (nlF c))):=by
 refine APure.intro (tyOf_ok Tryz.prog) hmix Tryz.func56 rfl (by rfl) (by kernel_rfl) (by show 1≤_;decide) rfl ?_;(conv=>whnf);exact .inl rfl
theorem letter_aux (c:UInt8) (a b:Bool) (h1:APure Tryz.prog 105 [.p (vU c)] (.p (.b a))) (h2:APure Tryz.prog 121 [.p (vU c)] (.p (.b b))):APure Tryz.prog 82 [.p (vU c)] (.p (.b (a||b))):=by
 refine APure.intro (tyOf_ok Tryz.prog) hmix Tryz.func82 rfl (by rfl) (by kernel_rfl) (by show 1≤_;decide) rfl ?_;(conv=>whnf);refine apc h1 ?_;(conv=>whnf);refine asplit ?_ ?_<;>intro h<;>conv=>whnf
 ·exact .inl (pb (by rw[h];rfl))
 ·refine apc h2 ?_
  (conv=>whnf);exact .inl (pb (by rw[h];rfl))
theorem letter_spec (c:UInt8):APure Tryz.prog 82 [.p (vU c)] (.p (.b (letterF c))):=letter_aux c _ _ (small_spec c) (cap_spec c)
theorem part_aux (c:UInt8) (a b:Bool) (h1:APure Tryz.prog 82 [.p (vU c)] (.p (.b a))) (h2:APure Tryz.prog 86 [.p (vU c)] (.p (.b b))):APure Tryz.prog 83 [.p (vU c)] (.p (.b ((a||b)||(bi c==95)))):=by
 refine APure.intro (tyOf_ok Tryz.prog) hmix Tryz.func83 rfl (by rfl) (by kernel_rfl) (by show 1≤_;decide) rfl ?_;(conv=>whnf);refine apc h1 ?_;(conv=>whnf);refine asplit ?_ ?_<;>intro h<;>conv=>whnf
 ·exact .inl (pb (by rw[h];rfl))
 ·refine apc h2 ?_
  (conv=>whnf);refine asplit ?_ ?_<;>intro h3<;>conv=>whnf
  ·exact .inl (pb (by rw[h,h3];rfl))
  ·exact .inl (pb (by rw[h,h3];rfl))
theorem part_spec (c:UInt8):APure Tryz.prog 83 [.p (vU c)] (.p (.b (partF c))):=part_aux c _ _ (letter_spec c) (digit_spec c)
theorem span_spec (l:Bs) (i f:Nat) (φ:UInt8→Bool) (hl:l.length≤1048576) (hi:i≤l.length) (R:Nat) (hR:spanF φ (l.drop i)=R) (hf:∀c,APure Tryz.prog f [.p (vU c)] (.p (.b (φ c)))):APure Tryz.prog 55 [.p (.s (B l)),.p (.i .i64 i),.fn f [] []] (.p (.i .i64 R)):=by
 refine APure.intro (tyOf_ok Tryz.prog) hmix Tryz.func55 rfl (by rfl) (by kernel_rfl) (by show 3≤_;decide) rfl ?_;(conv=>whnf);refine loopS (tyOf_ok _) hmix (by kernel_rfl) (l.length-i) [0,1,2,7] [] (fun k _=>[.p (.s (B l)),.p (.i .i64 i),.fn f [] [],.p (.i .i64 (ix k))]) (fun _ _=>[]) (fun k _=>R=k+spanF φ (l.drop (i+k))) () ⟨rfl,rfl,rfl,rfl⟩ (by simpa using hR.symm) ?_;intro k s hk hn;have hkx:ix k=(k:Int):=ix_eq (by omega);have hw:IntKind.i64.wrap ((i:Int)+ix k)=((i+k:Nat):Int):=by rw[hkx,wrap64 (by omega) (by omega)];omega
 (conv=>whnf);refine asplit ?_ ?_<;>intro h1
 ·rw[hw,B_size]at h1
  have hk1:i+k<l.length:=by have:=of_decide_eq_true h1;omega
  obtain⟨c,hc⟩:∃c,l[i+k]?=some c:=⟨_,List.getElem?_eq_getElem hk1⟩
  rw[drop_cons hc,spanF]at hn;have hfc:=hf c;generalize φ c=b at hfc hn;(conv=>whnf);refine asix hw hc ?_;(conv=>whnf);refine apc hfc ?_;(conv=>whnf);refine asplit ?_ ?_<;>intro h2<;>conv=>whnf
  ·subst h2
   exact⟨by omega,(),⟨rfl,rfl,rfl,rfl⟩,by rw[hn];simp[Nat.add_assoc];omega⟩
  ·subst h2
   refine .inl (pi ?_);rw[hkx,hn];simp
 ·rw[hw,B_size]at h1
  have hk1:¬i+k<l.length:=by have:=of_decide_eq_false h1;omega
  rw[List.drop_eq_nil_of_le (by omega),spanF]at hn;(conv=>whnf);refine .inl (pi ?_);rw[hkx,hn];simp
end TK
