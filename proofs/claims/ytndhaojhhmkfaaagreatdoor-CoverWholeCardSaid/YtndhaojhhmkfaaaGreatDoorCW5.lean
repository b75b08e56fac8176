/-
  DERIVED. Contracts of functions that the law reaches, and the law, for every input. No conditions.
-/
import Derived.Test.YtndhaojhhmkfaaaGreatDoorCW1
import Derived.Test.YtndhaojhhmkfaaaGreatDoorAMMv
open Go Go.AM Go.Proofs TR
set_option maxRecDepth 100000
namespace CV
def eS (S:List Int):List (PV×PV):=S.map fun i=>(.i .i64 i,.b true)
def insS (i:Int) (S:List Int):List Int:=bif S.contains i then S else S++[i]
theorem mfind_eS (k:Int):∀(S:List Int),mfind (.i .i64 k) (eS S)=bif S.contains k then some (.b true) else none
 | []=>rfl
 |a::r=>by
  have ih:=mfind_eS k r
  show(match pvEq (.i .i64 k) (.i .i64 a) with|true=>some (PV.b true)|false=>mfind (.i .i64 k) (eS r))=_
  show(match k==a with|true=>some (PV.b true)|false=>mfind (.i .i64 k) (eS r))=_
  rw[List.contains_cons]
  cases hq:k==a with
  |true=>rfl
  |false=>simp only[Bool.false_or];exact ih
theorem mput_eS (i:Int):∀(S:List Int),mput (.i .i64 i) (.b true) (eS S)=eS (insS i S)
 | []=>rfl
 |a::r=>by
  have ih:=mput_eS i r
  show(match i==a with|true=>(PV.i .i64 i,PV.b true)::eS r|false=>(PV.i .i64 a,PV.b true)::mput (.i .i64 i) (.b true) (eS r))=_
  rw[insS,List.contains_cons]
  cases hq:i==a with
  |true=>
   have e:i=a:=by simpa using hq
   subst e;rfl
  |false=>
   rw[Bool.false_or]
   simp only
   rw[ih,insS]
   cases r.contains i<;>rfl
theorem mlook_eS (k:Int) (S:List Int):mlook (.i .i64 k) (.b false) (eS S)=(.b (S.contains k),S.contains k):=by
 unfold mlook
 rw[mfind_eS]
 cases S.contains k<;>rfl
theorem ins_mem {i j:Int} {S:List Int}:j∈insS i S↔j=i∨j∈S:=by
 unfold insS
 cases hc:S.contains i with
 |true=>
  have:i∈S:=by simpa using hc
  constructor
  ·exact .inr
  ·rintro(rfl|h);exact this;exact h
 |false=>
  rw[cond_false,List.mem_append];simp[or_comm]
theorem ints_snoc:∀(m:List Row) (x:Pt) (t:Row),ints (m++[x::t])=ints m++(bif x.kind==3 then [pnum x] else [])
 | [],x,t=>by
   rw[List.nil_append,ints_cons]
   cases x.kind==3<;>rfl
 | []::m,x,t=>by rw[List.cons_append,ints_nil,ints_nil,ints_snoc m x t]
 |(y::u)::m,x,t=>by
  rw[List.cons_append,ints_cons,ints_cons,ints_snoc m x t]
  cases y.kind==3<;>rfl
theorem mex_eq (l:List Int):∀(f n k:Nat),n≤k→k≤n+f→(∀j:Nat,n≤j→j<k→(j:Int)∈l)→(k:Int)∉l→mexF l f n=k
 |0,n,k,h1,h2,_,_=>by rw[mexF];omega
 |f+1,n,k,h1,h2,h3,h4=>by
  rw[mexF]
  by_cases hk:n=k
  ·subst hk
   have:l.contains (n:Int)=false:=by
    cases hc:l.contains (n:Int) with
    |false=>rfl
    |true=>exact absurd (by simpa using hc) h4
   rw[this];rfl
  ·have:l.contains (n:Int)=true:=by simpa using h3 n (Nat.le_refl _) (by omega)
   rw[this,cond_true]
   exact mex_eq l f (n+1) k (by omega) (by omega) (fun j hj hj2=>h3 j (by omega) hj2) h4
theorem below_len {l:List Int} {k:Nat} (h:∀j:Nat,j<k→(j:Int)∈l):k≤l.length:=by
 have:=nodup_len' ((List.range k).map fun(j:Nat)=>(j:Int)) l (by
  rw[List.nodup_iff_pairwise_ne,List.pairwise_map]
  exact List.Pairwise.imp (fun {a b} (h:a<b)=>by omega) List.pairwise_lt_range) fun x hx=>by
  obtain⟨j,hj,rfl⟩:=List.mem_map.1 hx
  exact h j (List.mem_range.1 hj)
 simpa using this
theorem other_spec (m:List Row) (hl:m.length≤1000000) (hne:∀r∈m,∃x t,r=x::t∧x.kind≠5):APure Tryz.prog 35 [.p (.sl 1 (m.map eRow))] (.p (eP (otherF m))):=by
 have hil:(ints m).length≤m.length:=by
  clear hne hl
  induction m with
  |nil=>exact Nat.le_refl _
  |cons r m ih=>
   cases r with
   |nil=>rw[ints_nil];simp;omega
   |cons x t=>rw[ints_cons];cases x.kind==3<;>simp<;>omega
 refine APure.introS (tyOf_ok Tryz.prog) Tryz.func35 rfl (by rfl) (by show 1≤_;decide) rfl ?_
 refine AWp.cut (tyOf_ok Tryz.prog) hmix (by kernel_rfl) 3 [2,3,4] [2,8,9] (fun S:List Int=>[.ptr 2 0,.mp 8,.mp 9]) (fun S=>[.cells [.p (.i .i64 0),.p (.i .i64 0),.p (.s ⟨#[]⟩),.nilS],.map (.ki .i64) (eS S),.map .ks []]) (fun S=>∀i,i∈S↔i∈ints m) ?_ ?_
 ·conv=>whnf
  refine loopS (tyOf_ok _) hmix (by kernel_rfl) m.length [2,3,4,10,11,12] [2,8,9] (fun k (S:List Int)=>[.ptr 2 0,.mp 8,.mp 9,.p (.sl 1 (m.map eRow)),.p (.i .i64 (m.map eRow).length),.p (.i .i64 (ix k))])
   (fun k S=>[.cells [.p (.i .i64 0),.p (.i .i64 0),.p (.s ⟨#[]⟩),.nilS],.map (.ki .i64) (eS S),.map .ks []]) (fun k S=>∀i,i∈S↔i∈ints (m.take k)) [] ⟨rfl,rfl,rfl,rfl⟩ (by simp[ints]) ?_
  rintro k S hk hS
  conv=>whnf
  refine asplit ?_ ?_<;>intro h1<;>conv=>whnf
  ·have hk1:=ix_tt h1 (by rw[List.length_map]) hk (by omega)
   obtain⟨b,hb⟩:∃b,m[k]?=some b:=⟨_,List.getElem?_eq_getElem hk1⟩
   obtain⟨x,t,rfl,hx5⟩:=hne b (List.mem_of_getElem? hb)
   have hsn:=ints_snoc (m.take k) x t
   rw[←take_snoc' hb]at hsn
   refine aidxk (eRow_cons hb) (by omega) ?_
   obtain⟨bk,bn,bt,bx⟩:=x
   simp only[Pt.kind,pnum]at hsn hx5
   conv=>whnf
   refine aidxn (i:=0) rfl ?_
   conv=>whnf
   refine asplit ?_ ?_<;>intro h2<;>conv=>whnf
   ·replace h2:(bk==3)=true:=h2
    rw[h2,cond_true]at hsn
    refine aidxn (i:=0) rfl ?_
    conv=>whnf
    refine⟨hk1,insS bn S,⟨?_,rfl,rfl,rfl⟩,fun i=>by rw[ins_mem,hsn,List.mem_append,List.mem_singleton,hS,or_comm]⟩
    rw[←mput_eS]
    rfl
   ·replace h2:(bk==3)=false:=h2
    rw[h2,cond_false,List.append_nil]at hsn
    refine asplit ?_ ?_<;>intro h3<;>conv=>whnf
    ·replace h3:(bk==5)=true:=h3
     exact absurd (by simpa using h3) hx5
    ·exact⟨hk1,S,⟨rfl,rfl,rfl,rfl⟩,by rw[hsn];exact hS⟩
  ·have hk1:=ix_ff h1 (by rw[List.length_map]) hk (by omega)
   rw[hk1,List.take_length]at hS
   exact⟨S,⟨rfl,rfl,rfl,rfl⟩,hS⟩
 ·rintro S hS
  have hem:(decide ((S.length:Int)>0)=false→ints m=[])∧(decide ((S.length:Int)>0)=true→∃i l,ints m=i::l):=by
   constructor
   ·intro h
    have h:=of_decide_eq_false h
    have hs0:S=[]:=List.eq_nil_of_length_eq_zero (by omega)
    subst hs0
    cases hi:ints m with
    |nil=>rfl
    |cons i l=>have:=(hS i).2 (by rw[hi];simp);cases this
   ·intro h
    have h:=of_decide_eq_true h
    cases hi:ints m with
    |cons i l=>exact⟨i,l,rfl⟩
    |nil=>
     cases S with
     |nil=>simp at h
     |cons a r=>have:=(hS a).1 (by simp);rw[hi]at this;cases this
  have hsl:(eS S).length=S.length:=by simp[eS]
  unfold otherF
  refine AWp.fin (tyOf_ok Tryz.prog) hmix (by kernel_rfl) ?_
  conv=>whnf
  refine asplit ?_ ?_<;>intro h1<;>conv=>whnf
  ·replace h1:decide (((eS S).length:Int)>0)=true:=h1
   rw[hsl]at h1
   obtain⟨i,l,hi⟩:=hem.2 h1
   rw[hi]at hS hil ⊢
   rw[otherI]
   have hlk:=fun k=>mlook_eS k S
   have hcon:∀k:Int,S.contains k=(i::l).contains k:=fun k=>by
    have:=hS k
    cases h5:(i::l).contains k with
    |true=>simpa using this.2 (by simpa using h5)
    |false=>
     cases h6:S.contains k with
     |false=>rfl
     |true=>have:=this.1 (by simpa using h6);rw[show(i::l).contains k=true by simpa using this]at h5;cases h5
   simp only[List.length_cons]at hil
   refine loopS (tyOf_ok _) hmix (by kernel_rfl) (l.length+1) [2,3,7] [2,8] (fun k (_:Unit)=>[.ptr 2 0,.mp 8,.p (.i .i64 (k:Int))])
    (fun _ _=>[.cells [.p (.i .i64 0),.p (.i .i64 0),.p (.s ⟨#[]⟩),.nilS],.map (.ki .i64) (eS S)]) (fun k _=>∀j:Nat,j<k→(j:Int)∈i::l) () ⟨rfl,rfl,rfl,rfl⟩ (fun j hj=>by omega) ?_
   rintro k _ hk hj
   conv=>whnf
   refine alook (hlk (k:Int)) ?_
   conv=>whnf
   refine asplit ?_ ?_<;>intro h2<;>conv=>whnf
   ·rw[hcon]at h2
    have hin:(k:Int)∈i::l:=by simpa using h2
    have hj':∀j:Nat,j<k+1→(j:Int)∈i::l:=fun j h=>by
     rcases Nat.lt_or_ge j k with h|h
     ·exact hj j h
     ·have:j=k:=by omega
      subst this;exact hin
    have hb:=below_len hj'
    simp only[List.length_cons]at hb
    refine⟨by omega,(),⟨rfl,?_,rfl,rfl⟩,hj'⟩
    rw[show((k+1:Nat):Int)=IntKind.i64.wrap ((k:Int)+1) from(inc64 (by omega)).symm]
    rfl
   ·rw[hcon]at h2
    have hout:(k:Int)∉i::l:=fun h=>by rw[show(i::l).contains (k:Int)=true by simpa using h]at h2;cases h2
    rw[mex_eq (i::l) (l.length+1) 0 k (Nat.zero_le _) (by omega) (fun j _ h=>hj j h) hout]
    exact .inl rfl
  ·replace h1:decide (((eS S).length:Int)>0)=false:=h1
   rw[hsl]at h1
   rw[hem.1 h1,otherI]
   exact .inl rfl
end CV
open Go Go.AM Go.Proofs TR
set_option maxRecDepth 100000
namespace CV
mutual
def ntP:Pt→Bool
 |.mk k _ _ xs=>k != 5&&ntPs xs
def ntPs:List Pt→Bool
 | []=>true
 |x::r=>ntP x&&ntPs r
end
theorem ntPs_mem:∀{l:List Pt},ntPs l=true↔∀x∈l,ntP x=true
 | []=>by simp[ntPs]
 |a::r=>by rw[ntPs,Bool.and_eq_true,ntPs_mem];simp
theorem nt_anys (n:Nat):∀x∈anys n,ntP x=true:=fun x hx=>by
 have:=List.eq_of_mem_replicate hx
 subst this;rfl
theorem nt_kind {x:Pt} (h:ntP x=true):x.kind≠5:=by
 obtain⟨k,n,t,xs⟩:=x
 rw[ntP,Bool.and_eq_true]at h
 simpa[Pt.kind] using h.1
theorem nt_args {x:Pt} (h:ntP x=true):∀y∈x.args,ntP y=true:=by
 obtain⟨k,n,t,xs⟩:=x
 rw[ntP,Bool.and_eq_true]at h
 exact ntPs_mem.1 h.2
def WM (m:List Row) (c:Nat):Prop:=∀r∈m,r.length=c∧∀x∈r,ntP x=true
theorem wm_under {m:List Row} {c:Nat} (h:WM m (c+1)) (hd:Pt):WM (underF m hd) (hd.args.length+c):=fun r hr=>by
 obtain⟨x,t,hx,hc⟩:=under_mem hr
 obtain⟨h1,h2⟩:=h _ hx
 simp only[List.length_cons]at h1
 rcases hc with⟨_,rfl⟩|⟨_,ha,rfl⟩
 ·refine⟨by rw[List.length_append,anys_len];omega,fun y hy=>?_⟩
  rcases List.mem_append.1 hy with hy|hy
  ·exact nt_anys _ y hy
  ·exact h2 y (by simp[hy])
 ·have hl:x.args.length=hd.args.length:=by
   unfold alike at ha
   simp only[Bool.and_eq_true]at ha
   simpa using ha.2.2.2
  refine⟨by rw[List.length_append,hl];omega,fun y hy=>?_⟩
  rcases List.mem_append.1 hy with hy|hy
  ·exact nt_args (h2 x (by simp)) y hy
  ·exact h2 y (by simp[hy])
theorem wm_rest {m:List Row} {c:Nat} (h:WM m (c+1)):WM (restF m) c:=fun r hr=>by
 obtain⟨x,hx,_⟩:=rest_mem.1 hr
 obtain⟨h1,h2⟩:=h _ hx
 exact⟨by simpa using h1,fun y hy=>h2 y (by simp[hy])⟩
theorem miss_len (D:Sg):∀(f:Nat) (m:List Row) (c:Nat) (r:Row),missF D f m c=some (some r)→r.length=c
 |0,_,_,_,h=>by rw[missF]at h;cases h
 |f+1,m,0,r,h=>by
  rw[missF_zero]at h
  cases m with
  |nil=>cases h;rfl
  |cons _ _=>cases h
 |f+1,m,c+1,r,h=>by
  rw[missF_succ]at h
  cases hh:headsF D m with
  |some l=>
   rw[hh]at h
   simp only at h
   clear hh
   induction l with
   |nil=>rw[missF.missL]at h;cases h
   |cons x l ih=>
    rw[missF.missL]at h
    cases hq:missF D f (underF m x) (x.args.length+c) with
    |none=>rw[hq]at h;cases h
    |some r1=>
     rw[hq]at h
     cases r1 with
     |none=>exact ih h
     |some r2=>
      simp only at h
      cases h
      have:=miss_len D f _ _ _ hq
      simp;omega
  |none=>
   rw[hh]at h
   simp only at h
   cases hq:missF D f (restF m) c with
   |none=>rw[hq]at h;cases h
   |some r1=>
    rw[hq]at h
    cases r1 with
    |none=>cases h
    |some r2=>
     cases h
     have:=miss_len D f _ _ _ hq
     simp;omega
def HD (D:Sg):Prop:=∀d∈D,∀x∈d,x.2≤2
theorem makes_two {D:Sg} (hD:HD D) (n:ByteArray):(makesF D n).length≤1000000→∀h∈makesF D n,h.args.length≤2:=by
 intro _
 induction D with
 |nil=>intro h hh;cases hh
 |cons d r ih=>
  intro h hh
  rw[makesF]at hh
  cases hq:d.any (fun x=>x.1==n) with
  |true=>
   rw[hq,cond_true]at hh
   obtain⟨x,hx,rfl⟩:=List.mem_map.1 hh
   show(anys x.2).length≤2
   rw[anys_len];exact hD d (by simp) x hx
  |false=>
   rw[hq,cond_false]at hh
   rename_i hlen
   exact ih (fun d hd=>hD d (by simp[hd])) (by rw[makesF,hq]at hlen;exact hlen) h hh
theorem makes_len {D:Sg} (hD:∀d∈D,d.length≤1000) (n:ByteArray):(makesF D n).length≤1000:=by
 induction D with
 |nil=>exact Nat.zero_le _
 |cons d r ih=>
  rw[makesF]
  cases d.any (fun x=>x.1==n) with
  |true=>rw[cond_true,List.length_map];exact hD d (by simp)
  |false=>exact ih fun d hd=>hD d (by simp[hd])
theorem heads_two {D:Sg} (hD:HD D) (hDl:∀d∈D,d.length≤1000):∀(m:List Row) (l:List Pt),headsF D m=some l→l.length≤1000∧∀h∈l,h.args.length≤2
 | [],l,h=>by cases h
 | []::m,l,h=>by rw[headsF_nil]at h;exact heads_two hD hDl m l h
 |(x::t)::m,l,h=>by
  rw[headsF_cons]at h
  cases h4:x.kind==4 with
  |true=>
   rw[h4,cond_true]at h
   cases h
   refine⟨by decide,fun h hh=>?_⟩
   simp at hh
   rcases hh with rfl|rfl<;>decide
  |false=>
   rw[h4,cond_false]at h
   cases h6:x.kind==6 with
   |true=>
    rw[h6,cond_true]at h
    cases h
    have:=makes_len hDl x.text
    exact⟨this,makes_two hD x.text (by omega)⟩
   |false=>rw[h6,cond_false]at h;exact heads_two hD hDl m l h
end CV
open Go Go.AM Go.Proofs TR
set_option maxRecDepth 100000
namespace CV
structure PgOK (p:LPg):Prop where
 d:p.datas.length≤1000000
 m:∀d∈p.datas,d.makes.length≤1000000∧∀m∈d.makes,m.ts.length≤1000000
 two:HD (sgOf p.datas)
 len:∀d∈sgOf p.datas,d.length≤1000
theorem sl_take (n:Nat) (r:List Pt):List.drop (Int.toNat 0) (List.take ((n:Int)).toNat (ePs r))=ePs (r.take n):=by
 rw[ePs_map,ePs_map,List.map_take];simp
theorem sl_drop (n:Nat) (r:List Pt):List.drop ((n:Int)).toNat (List.take (((ePs r).length:Int)).toNat (ePs r))=ePs (r.drop n):=by
 rw[ePs_map,ePs_map,List.map_drop,Int.toNat_natCast,Int.toNat_natCast,List.take_of_length_le (Nat.le_refl _)]
def MissS (p:LPg) (f:Nat):Prop:=∀(m:List Row) (c:Nat) (res:Option Row),missF (sgOf p.datas) f m c=some res→WM m c→m.length≤1000→c+2*f≤100000→
 APure Tryz.prog 22 [.p (elPg p),.p (.sl 1 (m.map eRow)),.p (.i .i64 c)] (.tup [.p (.sl 4 (ePs (res.getD []))),.p (.b res.isSome)])
theorem wm_ne {m:List Row} {c:Nat} (h:WM m (c+1)):∀r∈m,r≠[]:=fun r hr e=>by subst e;have:=(h _ hr).1;simp at this
theorem wm_head {m:List Row} {c:Nat} (h:WM m (c+1)):∀r∈m,∃x t,r=x::t∧x.kind≠5:=fun r hr=>by
 cases r with
 |nil=>exact absurd rfl (wm_ne h _ hr)
 |cons x t=>exact⟨x,t,rfl,nt_kind ((h _ hr).2 x (by simp))⟩
theorem miss_step (p:LPg) (hp:PgOK p) (f:Nat) (ih:MissS p f):MissS p (f+1):=by
 intro m c res hr hm hl hb
 cases c with
 |zero=>
  rw[missF_zero]at hr
  have hg:res.getD []=[]:=by
   cases m with
   |nil=>cases hr;rfl
   |cons _ _=>cases hr;rfl
  have hs:res.isSome=((((m.map eRow).length:Nat):Int)==0):=by
   cases m with
   |nil=>cases hr;rfl
   |cons a r=>cases hr;simp;omega
  rw[hg,hs]
  obtain⟨pn,pv,pu,pd,pt,pi',pf,pa⟩:=p
  refine APure.intro (tyOf_ok Tryz.prog) hmix Tryz.func22 rfl (by rfl) (by kernel_rfl) (by show 3≤_;decide) rfl ?_
  conv=>whnf
  exact .inl rfl
 |succ c=>
  rw[missF_succ]at hr
  have hheads:=heads_spec p m hp.d hp.m (by omega) (wm_ne hm)
  have hhl:=heads_two hp.two hp.len m
  have hih:=fun(m':List Row) (c':Nat) (res':Option Row) h1 h2 h3 h4=>ih m' c' res' h1 h2 h3 h4
  have hrest:=rest_spec m (wm_ne hm) (by omega)
  have hoth:=other_spec m (by omega) (wm_head hm)
  have hund:=fun(h:Pt) ha=>under_spec m h (wm_ne hm) (by omega) (fun r hr=>by have:=(hm r hr).1;omega) ha
  generalize headsF (sgOf p.datas) m=hs at hr hheads hhl
  obtain⟨pn,pv,pu,pd,pt,pi',pf,pa⟩:=p
  refine APure.intro (tyOf_ok Tryz.prog) hmix Tryz.func22 rfl (by rfl) (by kernel_rfl) (by show 3≤_;decide) rfl ?_
  conv=>whnf
  refine apc hheads ?_
  conv=>whnf
  cases hs with
  |none=>
   have hwm:=wm_rest hm
   have hrl:=rest_len m
   simp only at hr
   have hw1:IntKind.i64.wrap (((c+1:Nat):Int)-1)=(c:Int):=by rw[wrap64 (by omega) (by omega)];omega
   cases hq:missF (sgOf pd) f (restF m) c with
   |none=>rw[hq]at hr;cases hr
   |some r1=>
    rw[hq]at hr
    have hcr:=hih (restF m) c r1 hq hwm (by omega) (by omega)
    have hlen:=fun r (e:r1=some r)=>miss_len (sgOf pd) f (restF m) c r (by rw[hq,e])
    generalize restF m=rm at hrest hcr
    generalize otherF m=om at hoth hr
    conv=>whnf
    refine apc hrest ?_
    conv=>whnf
    rw[hw1]
    refine apc hcr ?_
    conv=>whnf
    refine aneed (by kernel_rfl) ?_
    conv=>whnf
    cases r1 with
    |none=>
     simp only at hr
     cases hr
     conv=>whnf
     exact .inl rfl
    |some r=>
     simp only at hr
     cases hr
     have hrl:=hlen r rfl
     obtain⟨ok,on,ot,ox⟩:=om
     conv=>whnf
     refine apc hoth ?_
     conv=>whnf
     refine aneed (show(1+(ePs r).length)*56≤140737488355328 by rw[ePs_len];omega) ?_
     conv=>whnf
     refine .inl ?_
     show AV.tup [.p (.sl 4 ([eP (.mk ok on ot ox)]++ePs r)),_]=AV.tup [.p (.sl 4 (ePs (.mk ok on ot ox::r))),_]
     rw[ePs_cons]
     rfl
  |some l=>
   obtain⟨hl1,hl2⟩:=hhl l rfl
   simp only at hr
   conv=>whnf
   refine loopS (tyOf_ok _) hmix (by kernel_rfl) l.length [1,2,3,29,30,31] [3] (fun k (_:Unit)=>[.p (.sl 1 (m.map eRow)),.p (.i .i64 ((c+1:Nat):Int)),.ptr 3 0,.p (.sl 4 (ePs l)),.p (.i .i64 (ePs l).length),.p (.i .i64 (ix k))])
    (fun _ _=>[.cells [.p (.s pn),.p (.i .i64 pv),.p (.sl 3 (pu.map elUse)),.p (.sl 3 (pd.map elDt)),.p (.sl 2 (pt.map elTr)),.p (.sl 3 (pi'.map elIm)),.p (.sl 15 (pf.map elFu)),.p (.sl 14 (pa.map elAc))]])
    (fun k _=>missF.missL (fun h=>missF (sgOf pd) f (underF m h) (h.args.length+c)) (l.drop k)=some res) () ⟨rfl,rfl,rfl,rfl⟩ hr ?_
   rintro k _ hk hs
   conv=>whnf
   refine asplit ?_ ?_<;>intro h2<;>conv=>whnf
   ·have hk1:=ix_tt h2 (by rw[ePs_len]) hk (by omega)
    obtain⟨x,hx⟩:∃b,l[k]?=some b:=⟨_,List.getElem?_eq_getElem hk1⟩
    have hx2:=hl2 x (List.mem_of_getElem? hx)
    rw[drop_cons hx,missF.missL]at hs
    cases hq:missF (sgOf pd) f (underF m x) (x.args.length+c) with
    |none=>rw[hq]at hs;cases hs
    |some r1=>
     rw[hq]at hs
     have hul:=under_len m x
     have hcu:=hund x (by omega)
     have hcr:=hih (underF m x) (x.args.length+c) r1 hq (wm_under hm x) (by omega) (by omega)
     have hlen:=fun r (e:r1=some r)=>miss_len (sgOf pd) f (underF m x) (x.args.length+c) r (by rw[hq,e])
     generalize underF m x=um at hcu hcr
     refine aidxk (ePs_get hx) (by omega) ?_
     obtain⟨bk,bn,bt,bx⟩:=x
     have hargs:(Pt.mk bk bn bt bx).args=bx:=rfl
     simp only[hargs]at hx2 hcr hlen hs
     have hw1:IntKind.i64.wrap (IntKind.i64.wrap (((ePs bx).length:Int)+((c+1:Nat):Int))-1)=((bx.length+c:Nat):Int):=by
      rw[ePs_len,wrap64 (x:=(bx.length:Int)+((c+1:Nat):Int)) (by omega) (by omega),wrap64 (by omega) (by omega)];omega
     conv=>whnf
     refine apc hcu ?_
     conv=>whnf
     rw[hw1]
     refine apc hcr ?_
     conv=>whnf
     refine aneed (by kernel_rfl) ?_
     conv=>whnf
     cases r1 with
     |none=>
      simp only at hs
      conv=>whnf
      exact⟨hk1,(),⟨rfl,rfl,rfl,rfl⟩,hs⟩
     |some r=>
      simp only at hs
      cases hs
      have hrl:=hlen r rfl
      have hcl:=clone_spec (r.take bx.length) (by simp;omega)
      have hpl:=ePs_len r
      conv=>whnf
      refine aneed (show 0≤0∧(0:Int)≤((ePs bx).length:Int)∧((ePs bx).length:Int)≤((ePs r).length:Int) from⟨by decide,by omega,by rw[hpl,ePs_len];omega⟩) ?_
      conv=>whnf
      rw[show List.drop (Int.toNat 0) (List.take (((ePs bx).length:Int)).toNat (ePs ((some r).getD [])))=ePs (r.take bx.length) by rw[ePs_len];exact sl_take bx.length r]
      refine apc hcl ?_
      conv=>whnf
      refine aneed (show(0:Int)≤((ePs bx).length:Int)∧((ePs bx).length:Int)≤((ePs r).length:Int)∧((ePs r).length:Int)≤((ePs r).length:Int) from⟨by omega,by rw[hpl,ePs_len];omega,by omega⟩) ?_
      conv=>whnf
      rw[show List.drop (((ePs bx).length:Int)).toNat (List.take (((ePs ((some r).getD [])).length:Int)).toNat (ePs ((some r).getD [])))=ePs (r.drop bx.length) by rw[ePs_len bx];exact sl_drop bx.length r]
      refine aneed (show(1+(ePs (r.drop bx.length)).length)*56≤140737488355328 by rw[ePs_len,List.length_drop];omega) ?_
      conv=>whnf
      refine aneed (by kernel_rfl) ?_
      conv=>whnf
      refine .inl ?_
      show AV.tup [.p (.sl 4 ([eP (.mk bk bn bt (r.take bx.length))]++ePs (r.drop bx.length))),_]=AV.tup [.p (.sl 4 (ePs (setArgs (.mk bk bn bt bx) (r.take bx.length)::r.drop bx.length))),_]
      rw[ePs_cons]
      rfl
   ·have hk1:=ix_ff h2 (by rw[ePs_len]) hk (by omega)
    rw[hk1,List.drop_length,missF.missL]at hs
    cases hs
    exact .inl rfl
theorem missing_spec (p:LPg) (hp:PgOK p):∀f,MissS p f
 |0=>fun m c res h=>by rw[missF]at h;cases h
 |f+1=>miss_step p hp f (missing_spec p hp f)
theorem missing_top (p:LPg) (hp:PgOK p) (l:List Pt) (hl:l.length≤1000) (hnt:∀x∈l,ntP x=true) {f:Nat} (hf:f≤40000) {res:Option Row} (hr:missF (sgOf p.datas) f (colF l) 1=some res):
 APure Tryz.prog 9 [.p (elPg p),.p (.sl 4 (ePs l))] (.tup [.p (eP ((res.getD []).headD (.mk 0 0 nostr []))),.p (.b res.isSome)]):=by
 have h1:=column_spec l (by omega)
 have hwm:WM (colF l) 1:=fun r hr=>by
  obtain⟨x,hx,rfl⟩:=List.mem_map.1 hr
  exact⟨rfl,fun y hy=>by simp at hy;subst hy;exact hnt y hx⟩
 have h2:=missing_spec p hp f (colF l) 1 res hr hwm (by unfold colF;simp;omega) (by omega)
 have hlen:=fun r (e:res=some r)=>miss_len (sgOf p.datas) f (colF l) 1 r (by rw[hr,e])
 generalize colF l=cl at h1 h2
 obtain⟨pn,pv,pu,pd,pt,pi',pf,pa⟩:=p
 refine APure.intro (tyOf_ok Tryz.prog) hmix Tryz.func9 rfl (by rfl) (by kernel_rfl) (by show 2≤_;decide) rfl ?_
 conv=>whnf
 refine apc h1 ?_
 conv=>whnf
 refine apc h2 ?_
 conv=>whnf
 refine aneed (by kernel_rfl) ?_
 conv=>whnf
 cases res with
 |none=>
  conv=>whnf
  exact .inl rfl
 |some r=>
  have hl1:=hlen r rfl
  match r,hl1 with
  | [x],_=>
    have hx:(ePs ((some [x]).getD []))[0]?=some (eP x):=rfl
    obtain⟨xk,xn,xt,xs⟩:=x
    conv=>whnf
    refine aidxn (i:=0) hx ?_
    conv=>whnf
    exact .inl rfl
end CV
open Go Go.AM Go.Proofs TR
set_option maxRecDepth 100000
namespace CV
def cellsPg (p:LPg):AObj:=.cells [.p (.s p.name),.p (.i .i64 p.ver),.p (.sl 3 (p.uses.map elUse)),.p (.sl 3 (p.datas.map elDt)),.p (.sl 2 (p.traits.map elTr)),.p (.sl 3 (p.impls.map elIm)),.p (.sl 15 (p.funcs.map elFu)),.p (.sl 14 (p.actors.map elAc))]
def hpX (p:LPg) (m:List Row) (q:Row):Heap:=[(1000000000,cellsPg p),(1000000001,.cells [.p (.sl 1 (m.map eRow))]),(1000000002,.cells [.p (.sl 4 (ePs q))])]
def UsefS (p:LPg) (f:Nat):Prop:=∀(τs:List Tp) (m:List Row) (q:Row) (b:Bool),usefF D0 f m q=some b→typed τs m→okPs τs q→m.length≤1000→q.length+2*f≤100000→
 APure Tryz.prog 24 [.p (elPg p),.p (.sl 1 (m.map eRow)),.p (.sl 4 (ePs q))] (.p (.b b))
theorem typed_ne {τ:Tp} {τs:List Tp} {m:List Row} (h:typed (τ::τs) m):∀r∈m,r≠[]:=fun r hr e=>by subst e;have:=h _ hr;rw[okPs]at this;exact this
theorem typed_len {τs:List Tp} {m:List Row} (h:typed τs m):∀r∈m,r.length=τs.length:=fun r hr=>okPs_len (h r hr)
theorem clos_spec (p:LPg) (f:Nat) (ih:UsefS p f) (τ:Tp) (τs:List Tp) (m:List Row) (x:Pt) (t:Row) (hm:typed (τ::τs) m) (ht:okPs τs t) (hml:m.length≤1000) (hb:(x::t).length+2*(f+1)≤100000) (h:Pt) (hh:h∈hds τ) (b:Bool) (hu:usefF D0 f (underF m h) (anys h.args.length++t)=some b):
 AMem Tryz.prog 39 [.p (eP h),.ptr 1000000000 0,.ptr 1000000001 0,.ptr 1000000002 0] (hpX p m (x::t)) (.p (.b b)) (hpX p m (x::t)):=by
 obtain⟨o1,o2,o3⟩:=hds_ok hh
 obtain⟨ts,mkv,H⟩:=hd_of o1 o2
 have h2:=hds_two hh
 have htl:=okPs_len ht
 have hml2:=typed_len hm
 simp only[List.length_cons]at hb hml2
 have c1:=under_spec m h (typed_ne hm) (by omega) (fun r hr=>by have:=hml2 r hr;omega) (by omega)
 have c2:=anys_spec h.args.length (by omega)
 have c3:=cat_spec (anys h.args.length) t (by rw[anys_len];omega) (by omega)
 have hul:=under_len m h
 have c4:=ih (ts++τs) (underF m h) (anys h.args.length++t) b hu (under_ok hm H) (okPs_app (by rw[H.len];exact okPs_anys ts) ht) (by omega) (by rw[List.length_append,anys_len];omega)
 have hx:ePs (x::t)=eP x::ePs t:=ePs_cons x t
 generalize underF m h=um at c1 c4
 obtain⟨pn,pv,pu,pd,pt,pi',pf,pa⟩:=p
 unfold hpX cellsPg
 rw[hx]
 obtain⟨hk,hn,hs,hxs⟩:=h
 have hargs:(Pt.mk hk hn hs hxs).args=hxs:=rfl
 simp only[hargs]at c2 c3 c4
 refine AMem.intro (tyOf_ok Tryz.prog) hmix Tryz.func39 rfl (by rfl) (by kernel_rfl) (by show 4≤_;decide) rfl ?_
 conv=>whnf
 refine apc c1 ?_
 conv=>whnf
 rw[show((ePs hxs).length:Int)=(hxs.length:Int) by rw[ePs_len]]
 refine apc c2 ?_
 conv=>whnf
 refine aneed ⟨by decide,by simp;omega,by simp⟩ ?_
 conv=>whnf
 rw[slice1]
 refine amc [] 500 c3 ?_
 conv=>whnf
 refine apc c4 ?_
 conv=>whnf
 refine aneed (by kernel_rfl) ?_
 conv=>whnf
 exact⟨.inl rfl,⟨.inl rfl,.inl rfl,.inl rfl,.inl rfl,.inl rfl,.inl rfl,.inl rfl,.inl rfl,trivial⟩,⟨.inl rfl,trivial⟩,⟨.inl rfl,trivial⟩,trivial⟩
def idxU (g:Pt→Option Bool):List Pt→Nat→Int
 | [],_=>-1
 |h::l,k=>match g h with|some true=>(k:Int)|_=>idxU g l (k+1)
theorem idxU_ok (g:Pt→Option Bool):∀(l:List Pt) (k:Nat) (b:Bool),usefF.usefL g l=some b→decide (idxU g l k≥0)=b
 | [],k,b,h=>by rw[usefF.usefL]at h;cases h;rfl
 |x::l,k,b,h=>by
  rw[usefF.usefL]at h
  rw[idxU]
  cases hq:g x with
  |none=>rw[hq]at h;cases h
  |some q=>
   rw[hq]at h
   cases q with
   |true=>cases h;simp
   |false=>exact idxU_ok g l (k+1) b h
theorem idxP_spec (p:LPg) (f:Nat) (ih:UsefS p f) (τ:Tp) (τs:List Tp) (m:List Row) (x:Pt) (t:Row) (hm:typed (τ::τs) m) (ht:okPs τs t) (hml:m.length≤1000) (hb:(x::t).length+2*(f+1)≤100000) (b:Bool)
 (l:List Pt) (hl:l.length≤1000) (hh:∀h∈l,h∈hds τ) (hu:usefF.usefL (fun h=>usefF D0 f (underF m h) (anys h.args.length++t)) l=some b):
 AMem Tryz.prog 12 [.p (.sl 4 (ePs l)),.fn 39 [] [.ptr 1000000000 0,.ptr 1000000001 0,.ptr 1000000002 0]] (hpX p m (x::t))
  (.p (.i .i64 (idxU (fun h=>usefF D0 f (underF m h) (anys h.args.length++t)) l 0))) (hpX p m (x::t)):=by
 have hc0:=clos_spec p f ih τ τs m x t hm ht hml hb
 generalize hg:(fun h=>usefF D0 f (underF m h) (anys h.args.length++t))=g at hu
 have hc1:∀h∈l,∀b,g h=some b→_:=fun h hh' b hb'=>hc0 h (hh h hh') b (by rw[←hg]at hb';exact hb')
 clear hc0
 generalize hR:idxU g l 0=R
 unfold hpX cellsPg at hc1 ⊢
 refine AMem.intro (tyOf_ok Tryz.prog) hmix Tryz.func12 rfl (by rfl) (by kernel_rfl) (by show 2≤_;decide) rfl ?_
 conv=>whnf
 refine loopS (tyOf_ok _) hmix (by kernel_rfl) l.length [0,1,7,8] [1000000000,1000000001,1000000002] (fun k (_:Unit)=>[.p (.sl 4 (ePs l)),.fn 39 [] [.ptr 1000000000 0,.ptr 1000000001 0,.ptr 1000000002 0],.p (.i .i64 (ePs l).length),.p (.i .i64 (ix k))])
  (fun _ _=>[.cells [.p (.s p.name),.p (.i .i64 p.ver),.p (.sl 3 (p.uses.map elUse)),.p (.sl 3 (p.datas.map elDt)),.p (.sl 2 (p.traits.map elTr)),.p (.sl 3 (p.impls.map elIm)),.p (.sl 15 (p.funcs.map elFu)),.p (.sl 14 (p.actors.map elAc))],.cells [.p (.sl 1 (m.map eRow))],.cells [.p (.sl 4 (ePs (x::t)))]])
  (fun k _=>idxU g (l.drop k) k=R∧usefF.usefL g (l.drop k)=some b) () ⟨rfl,rfl,rfl,rfl⟩ ⟨hR,hu⟩ ?_
 rintro k _ hk ⟨hs1,hs2⟩
 conv=>whnf
 refine asplit ?_ ?_<;>intro h1<;>conv=>whnf
 ·have hk1:=ix_tt h1 (by rw[ePs_len]) hk (by omega)
  obtain⟨y,hy⟩:∃b,l[k]?=some b:=⟨_,List.getElem?_eq_getElem hk1⟩
  have hc2:=hc1 y (List.mem_of_getElem? hy)
  rw[drop_cons hy,idxU]at hs1
  rw[drop_cons hy,usefF.usefL]at hs2
  refine aidxk (ePs_get hy) (by omega) ?_
  cases hq:g y with
  |none=>rw[hq]at hs2;cases hs2
  |some q=>
   have hc:=hc2 q hq
   rw[hq]at hs1 hs2
   obtain⟨yk,yn,yt,ys⟩:=y
   conv=>whnf
   refine amc [1000000000,1000000001,1000000002] 50 hc ?_
   conv=>whnf
   cases q with
   |true=>
    conv=>whnf
    exact⟨.inl (pi (by rw[ix_eq (by omega)];exact hs1)),⟨.inl rfl,.inl rfl,.inl rfl,.inl rfl,.inl rfl,.inl rfl,.inl rfl,.inl rfl,trivial⟩,⟨.inl rfl,trivial⟩,⟨.inl rfl,trivial⟩,trivial⟩
   |false=>
    conv=>whnf
    exact⟨hk1,(),⟨rfl,rfl,rfl,rfl⟩,hs1,hs2⟩
 ·have hk1:=ix_ff h1 (by rw[ePs_len]) hk (by omega)
  rw[hk1,List.drop_length,idxU]at hs1
  exact⟨.inl (pi hs1),⟨.inl rfl,.inl rfl,.inl rfl,.inl rfl,.inl rfl,.inl rfl,.inl rfl,.inl rfl,trivial⟩,⟨.inl rfl,trivial⟩,⟨.inl rfl,trivial⟩,trivial⟩
theorem contP_spec (p:LPg) (f:Nat) (ih:UsefS p f) (τ:Tp) (τs:List Tp) (m:List Row) (x:Pt) (t:Row) (hm:typed (τ::τs) m) (ht:okPs τs t) (hml:m.length≤1000) (hb:(x::t).length+2*(f+1)≤100000) (b:Bool)
 (l:List Pt) (hl:l.length≤1000) (hh:∀h∈l,h∈hds τ) (hu:usefF.usefL (fun h=>usefF D0 f (underF m h) (anys h.args.length++t)) l=some b):
 AMem Tryz.prog 38 [.p (.sl 4 (ePs l)),.fn 39 [] [.ptr 1000000000 0,.ptr 1000000001 0,.ptr 1000000002 0]] (hpX p m (x::t)) (.p (.b b)) (hpX p m (x::t)):=by
 have h:=idxP_spec p f ih τ τs m x t hm ht hml hb b l hl hh hu
 have hb2:=idxU_ok _ l 0 b hu
 subst hb2
 generalize idxU (fun h=>usefF D0 f (underF m h) (anys h.args.length++t)) l 0=R at h
 unfold hpX cellsPg at h ⊢
 refine AMem.intro (tyOf_ok Tryz.prog) hmix Tryz.func38 rfl (by rfl) (by kernel_rfl) (by show 2≤_;decide) rfl ?_
 conv=>whnf
 refine amc [1000000000,1000000001,1000000002] 50 h ?_
 conv=>whnf
 exact⟨.inl rfl,⟨.inl rfl,.inl rfl,.inl rfl,.inl rfl,.inl rfl,.inl rfl,.inl rfl,.inl rfl,trivial⟩,⟨.inl rfl,trivial⟩,⟨.inl rfl,trivial⟩,trivial⟩
end CV
open Go Go.AM Go.Proofs TR
set_option maxRecDepth 100000
namespace CV
theorem useful_step (p:LPg) (hp:PgOK p) (hD:sgOf p.datas=D0) (f:Nat) (ih:UsefS p f):UsefS p (f+1):=by
 intro τs m q b hu hm hq hml hb
 cases τs with
 |nil=>
  have:=okPs_nil hq
  subst this
  rw[usefF_nil]at hu
  cases hu
  have hs:m.isEmpty=((((m.map eRow).length:Nat):Int)==0):=by
   cases m with
   |nil=>rfl
   |cons a r=>simp;omega
  rw[hs]
  obtain⟨pn,pv,pu,pd,pt,pi',pf,pa⟩:=p
  refine APure.intro (tyOf_ok Tryz.prog) hmix Tryz.func24 rfl (by rfl) (by kernel_rfl) (by show 3≤_;decide) rfl ?_
  conv=>whnf
  exact .inl rfl
 |cons τ τs=>
  obtain⟨x,t,rfl,hx,ht⟩:=row_cons hq
  have htl:=okPs_len ht
  have hml2:=typed_len hm
  have hb':=hb
  simp only[List.length_cons]at hb hml2
  have c1:=open_spec x
  have hund:=fun ha=>under_spec m x (typed_ne hm) (by omega) (fun r hr=>by have:=hml2 r hr;omega) ha
  have hxu:=fun ho=>hd_of hx ho
  have hx2:=fun ho=>args_two hx ho
  have hul:=under_len m x
  have hrl:=rest_len m
  have hheads:=heads_spec p m hp.d hp.m (by omega) (typed_ne hm)
  rw[hD]at hheads
  have hrest:=rest_spec m (typed_ne hm) (by omega)
  have hrt:=rest_ok hm
  have hih:=fun(τs':List Tp) (m':List Row) (q':Row) (b':Bool) h1 h2 h3 h4 h5=>ih τs' m' q' b' h1 h2 h3 h4 h5
  have hcat:=fun(a b:List Pt) h1 h2=>cat_spec a b h1 h2
  have hcont:=contP_spec p f ih τ τs m x t hm ht hml hb' b
  have hhs:=fun l=>@heads_some τ τs m l hm
  rw[usefF_cons]at hu
  rw[ePs_cons]
  unfold hpX cellsPg at hcont
  rw[ePs_cons]at hcont
  cases ho:opn x with
  |false=>
   rw[ho]at hu c1
   replace hu:usefF D0 f (underF m x) (x.args++t)=some b:=hu
   obtain⟨ts,mkv,H⟩:=hxu ho
   have h2:=hx2 ho
   have c2:=hund (by omega)
   have c3:=hcat x.args t (by omega) (by omega)
   have c4:=hih (ts++τs) (underF m x) (x.args++t) b hu (under_ok hm H) (okPs_app H.args ht) (by omega) (by rw[List.length_append];omega)
   generalize underF m x=um at c2 c4
   obtain⟨pn,pv,pu,pd,pt,pi',pf,pa⟩:=p
   obtain⟨xk,xn,xt,xs⟩:=x
   have hargs:(Pt.mk xk xn xt xs).args=xs:=rfl
   simp only[hargs]at c3 c4
   refine APure.intro (tyOf_ok Tryz.prog) hmix Tryz.func24 rfl (by rfl) (by kernel_rfl) (by show 3≤_;decide) rfl ?_
   conv=>whnf
   refine aidxn (i:=0) rfl ?_
   conv=>whnf
   refine apc c1 ?_
   conv=>whnf
   refine apc c2 ?_
   conv=>whnf
   refine aneed ⟨by decide,by simp;omega,by simp⟩ ?_
   conv=>whnf
   rw[slice1]
   refine amc [] 500 c3 ?_
   conv=>whnf
   refine apc c4 ?_
   conv=>whnf
   refine aneed (by kernel_rfl) ?_
   conv=>whnf
   exact .inl rfl
  |true=>
   rw[ho]at hu c1
   replace hu:(match headsF D0 m with
    |some l=>usefF.usefL (fun h=>usefF D0 f (underF m h) (anys h.args.length++t)) l
    |none=>usefF D0 f (restF m) t)=some b:=hu
   cases hh:headsF D0 m with
   |some l=>
    rw[hh]at hu hheads
    simp only at hu
    obtain⟨hl,_,_⟩:=hhs l hh
    have hll:l.length≤1000:=by rw[hl];cases τ<;>decide
    have c5:=hcont l hll (fun h hh'=>by rw[←hl];exact hh') hu
    clear hcont
    obtain⟨pn,pv,pu,pd,pt,pi',pf,pa⟩:=p
    obtain⟨xk,xn,xt,xs⟩:=x
    refine APure.intro (tyOf_ok Tryz.prog) hmix Tryz.func24 rfl (by rfl) (by kernel_rfl) (by show 3≤_;decide) rfl ?_
    conv=>whnf
    refine aidxn (i:=0) rfl ?_
    conv=>whnf
    refine apc c1 ?_
    conv=>whnf
    refine apc hheads ?_
    conv=>whnf
    refine amc [3,4,5] 50 c5 ?_
    conv=>whnf
    exact .inl rfl
   |none=>
    rw[hh]at hu hheads
    simp only at hu
    have c4:=hih τs (restF m) t b hu hrt ht (by omega) (by omega)
    clear hcont
    generalize restF m=rm at hrest c4
    obtain⟨pn,pv,pu,pd,pt,pi',pf,pa⟩:=p
    obtain⟨xk,xn,xt,xs⟩:=x
    refine APure.intro (tyOf_ok Tryz.prog) hmix Tryz.func24 rfl (by rfl) (by kernel_rfl) (by show 3≤_;decide) rfl ?_
    conv=>whnf
    refine aidxn (i:=0) rfl ?_
    conv=>whnf
    refine apc c1 ?_
    conv=>whnf
    refine apc hheads ?_
    conv=>whnf
    refine apc hrest ?_
    conv=>whnf
    refine aneed ⟨by decide,by simp;omega,by simp⟩ ?_
    conv=>whnf
    rw[slice1]
    refine apc c4 ?_
    conv=>whnf
    refine aneed (by kernel_rfl) ?_
    conv=>whnf
    exact .inl rfl
theorem useful_spec (p:LPg) (hp:PgOK p) (hD:sgOf p.datas=D0):∀f,UsefS p f
 |0=>fun τs m q b h=>by rw[usefF]at h;cases h
 |f+1=>useful_step p hp hD f (useful_spec p hp hD f)
end CV
