/-
  DERIVED. Contracts of functions that the law reaches, and the law, for every input. No conditions.
-/
import Derived.Test.YtndhaojhhmkfaaaGreatDoorCW5
open Go Go.AM Go.Proofs TR
set_option maxRecDepth 100000
namespace CV
def eN (l:List Nat):List PV:=l.map fun(i:Nat)=>PV.i .i64 (i:Int)
theorem eN_len (l:List Nat):(eN l).length=l.length:=by unfold eN;simp
theorem eN_get {l:List Nat} {k i:Nat} (h:l[k]?=some i):(eN l)[k]?=some (.i .i64 (i:Int)):=by unfold eN;rw[List.getElem?_map,h];rfl
theorem eN_app (l r:List Nat):eN (l++r)=eN l++eN r:=by unfold eN;rw[List.map_append]
theorem col_take (l:List Pt) (k:Nat):(colF (l.take k)).length≤l.length:=by unfold colF;simp;omega
theorem useless_spec (p:LPg) (hp:PgOK p) (hD:sgOf p.datas=D0) (l:List Pt) (hl:l.length≤1000) (hok:∀x∈l,okP .pair x) {f:Nat} (hf:f≤40000) {R:List Nat} (ht:uslF D0 f [] l 0=some R):
 APure Tryz.prog 10 [.p (elPg p),.p (.sl 4 (ePs l))] (.p (.sl 1 (eN R))):=by
 have hus:=useful_spec p hp hD f
 have hcol:=fun k=>column_spec (l.take k) (by simp;omega)
 obtain⟨pn,pv,pu,pd,pt,pi',pf,pa⟩:=p
 refine APure.intro (tyOf_ok Tryz.prog) hmix Tryz.func10 rfl (by rfl) (by kernel_rfl) (by show 2≤_;decide) rfl ?_
 conv=>whnf
 refine lp_nil 5 0 rfl ?_
 refine loopS (tyOf_ok _) hmix (by kernel_rfl) l.length [1,2,5,8,9,10] [2] (fun k (s:List Nat)=>[.p (.sl 4 (ePs l)),.ptr 2 0,.so 1 (eN s),.p (.sl 4 (ePs l)),.p (.i .i64 (ePs l).length),.p (.i .i64 (ix k))])
  (fun _ _=>[.cells [.p (.s pn),.p (.i .i64 pv),.p (.sl 3 (pu.map elUse)),.p (.sl 3 (pd.map elDt)),.p (.sl 2 (pt.map elTr)),.p (.sl 3 (pi'.map elIm)),.p (.sl 15 (pf.map elFu)),.p (.sl 14 (pa.map elAc))]])
  (fun k s=>s.length≤k∧∃t,uslF D0 f (l.take k) (l.drop k) k=some t∧s++t=R) [] ⟨rfl,rfl,rfl,rfl⟩ ⟨Nat.zero_le _,R,ht,rfl⟩ ?_
 rintro k s hk ⟨hsl,t,hs1,hs2⟩
 conv=>whnf
 refine asplit ?_ ?_<;>intro h1<;>conv=>whnf
 ·have hk1:=ix_tt h1 (by rw[ePs_len]) hk (by omega)
  obtain⟨x,hx⟩:∃b,l[k]?=some b:=⟨_,List.getElem?_eq_getElem hk1⟩
  rw[drop_cons hx,uslF]at hs1
  cases hq:usefF D0 f (colF (l.take k)) [x] with
  |none=>rw[hq]at hs1;cases hs1
  |some b=>
   rw[hq]at hs1
   simp only at hs1
   rw[←take_snoc' hx]at hs1
   cases hq2:uslF D0 f (l.take (k+1)) (l.drop (k+1)) (k+1) with
   |none=>rw[hq2]at hs1;cases hs1
   |some t2=>
    rw[hq2]at hs1
    simp only[Option.some.injEq]at hs1
    have c1:=hcol k
    have c2:=hus [.pair] (colF (l.take k)) [x] b hq (col_ok fun y hy=>hok y (List.mem_of_mem_take hy)) (okPs_one (hok x (List.mem_of_getElem? hx))) (by have:=col_take l k;omega) (by simp;omega)
    have hpl:=ePs_len l
    have hen:=eN_len s
    have hix:=ix_eq (k:=k) (by omega)
    generalize colF (l.take k)=cl at c1 c2
    refine aidxk (ePs_get hx) (by omega) ?_
    obtain⟨bk,bn,bt,bx⟩:=x
    conv=>whnf
    refine aneed (show 0≤0∧(0:Int)≤ix k∧ix k≤((ePs l).length:Int) from⟨by decide,by omega,by omega⟩) ?_
    conv=>whnf
    rw[show List.drop (Int.toNat 0) (List.take (ix k).toNat (ePs l))=ePs (l.take k) by rw[hix];exact sl_take k l]
    refine apc c1 ?_
    conv=>whnf
    refine apc c2 ?_
    conv=>whnf
    refine aneed (by kernel_rfl) ?_
    conv=>whnf
    refine asplit ?_ ?_<;>intro h2<;>conv=>whnf
    ·simp only[Bool.not_eq_true']at h2
     subst h2
     refine aneed (show((eN s).length+1)*8≤140737488355328 by omega) ?_
     conv=>whnf
     have e1:eN (s++[k])=eN s++[.i .i64 (ix k)]:=by rw[eN_app,hix];rfl
     refine⟨hk1,s++[k],⟨rfl,?_,rfl,rfl⟩,by simp;omega,t2,by first|exact hq2|rfl,?_⟩
     ·rw[e1];rfl
     ·rw[List.append_assoc,←hs2,←hs1];rfl
    ·simp only[Bool.not_eq_false']at h2
     subst h2
     exact⟨hk1,s,⟨rfl,rfl,rfl,rfl⟩,by omega,t2,by first|exact hq2|rfl,by rw[←hs2,←hs1];rfl⟩
 ·have hk1:=ix_ff h1 (by rw[ePs_len]) hk (by omega)
  subst hk1
  rw[List.drop_length,uslF]at hs1
  cases hs1
  rw[List.append_nil]at hs2
  subst hs2
  exact .inr (.inl rfl)
def idxN (n:Nat):List Nat→Nat→Int
 | [],_=>-1
 |a::r,k=>bif a==n then (k:Int) else idxN n r (k+1)
theorem idxN_ok (n:Nat):∀(l:List Nat) (k:Nat),decide (idxN n l k≥0)=l.contains n
 | [],k=>rfl
 |a::r,k=>by
  rw[idxN]
  cases hq:a==n with
  |true=>
   have:n=a:=(eq_of_beq hq).symm
   subst this
   simp
  |false=>
   rw[cond_false,idxN_ok n r (k+1)]
   have h1:¬a=n:=by simpa using hq
   have h2:¬n=a:=fun e=>h1 e.symm
   simp[h2]
theorem indexN_spec (l:List Nat) (n:Nat) (hl:l.length≤1000000):APure Tryz.prog 25 [.p (.sl 1 (eN l)),.p (.i .i64 (n:Int))] (.p (.i .i64 (idxN n l 0))):=by
 generalize hR:idxN n l 0=R
 refine APure.intro (tyOf_ok Tryz.prog) hmix Tryz.func25 rfl (by rfl) (by kernel_rfl) (by show 2≤_;decide) rfl ?_
 conv=>whnf
 refine loopS (tyOf_ok _) hmix (by kernel_rfl) l.length [0,1,7,8] [] (fun k (_:Unit)=>[.p (.sl 1 (eN l)),.p (.i .i64 (n:Int)),.p (.i .i64 (eN l).length),.p (.i .i64 (ix k))]) (fun _ _=>[]) (fun k _=>idxN n (l.drop k) k=R) () ⟨rfl,rfl,rfl,rfl⟩ hR ?_
 rintro k _ hk hs
 conv=>whnf
 refine asplit ?_ ?_<;>intro h1<;>conv=>whnf
 ·have hk1:=ix_tt h1 (by rw[eN_len]) hk (by omega)
  obtain⟨x,hx⟩:∃b,l[k]?=some b:=⟨_,List.getElem?_eq_getElem hk1⟩
  rw[drop_cons hx,idxN]at hs
  refine aidxk (eN_get hx) (by omega) ?_
  conv=>whnf
  refine asplit ?_ ?_<;>intro h2<;>conv=>whnf
  ·have h3:x=n:=by simp at h2;omega
   subst h3
   exact .inl (pi (by rw[ix_eq (by omega)];simpa using hs))
  ·have h3:(x==n)=false:=by simp at h2 ⊢;omega
   rw[h3]at hs
   exact⟨hk1,(),⟨rfl,rfl,rfl,rfl⟩,hs⟩
 ·have hk1:=ix_ff h1 (by rw[eN_len]) hk (by omega)
  rw[hk1,List.drop_length,idxN]at hs
  exact .inl (pi hs)
theorem containsN_spec (l:List Nat) (n:Nat) (hl:l.length≤1000000):APure Tryz.prog 15 [.p (.sl 1 (eN l)),.p (.i .i64 (n:Int))] (.p (.b (l.contains n))):=by
 have h:=indexN_spec l n hl
 rw[←idxN_ok n l 0]
 generalize idxN n l 0=R at h
 refine APure.intro (tyOf_ok Tryz.prog) hmix Tryz.func15 rfl (by rfl) (by kernel_rfl) (by show 2≤_;decide) rfl ?_
 conv=>whnf
 refine apc h ?_
 conv=>whnf
 exact .inl rfl
theorem equalN_spec (l:List Nat) (hl:l.length≤1000000):APure Tryz.prog 17 [.p (.sl 1 (eN l)),.p (.sl 1 (eN l))] (.p (.b true)):=by
 refine APure.intro (tyOf_ok Tryz.prog) hmix Tryz.func17 rfl (by rfl) (by kernel_rfl) (by show 2≤_;decide) rfl ?_
 conv=>whnf
 refine asf (by simp) ?_
 conv=>whnf
 refine loopS (tyOf_ok _) hmix (by kernel_rfl) l.length [0,1,12,13] [] (fun k (_:Unit)=>[.p (.sl 1 (eN l)),.p (.sl 1 (eN l)),.p (.i .i64 (eN l).length),.p (.i .i64 (ix k))]) (fun _ _=>[]) (fun _ _=>True) () ⟨rfl,rfl,rfl,rfl⟩ trivial ?_
 rintro k _ hk -
 conv=>whnf
 refine asplit ?_ ?_<;>intro h1<;>conv=>whnf
 ·have hk1:=ix_tt h1 (by rw[eN_len]) hk (by omega)
  obtain⟨x,hx⟩:∃b,l[k]?=some b:=⟨_,List.getElem?_eq_getElem hk1⟩
  refine aidxk (eN_get hx) (by omega) ?_
  conv=>whnf
  refine aidxk (eN_get hx) (by omega) ?_
  conv=>whnf
  refine aneed (by kernel_rfl) ?_
  conv=>whnf
  refine asf (by simp) ?_
  conv=>whnf
  exact⟨hk1,(),⟨rfl,rfl,rfl,rfl⟩,trivial⟩
 ·exact .inl rfl
end CV
open Go Go.AM Go.Proofs TR
set_option maxRecDepth 100000
namespace CV
def R64 (k:Int):Prop:=-9223372036854775808≤k∧k≤9223372036854775807
theorem tmod_emod (k n:Int) (hn:0<n):(bif decide (k.tmod n<0) then k.tmod n+n else k.tmod n)=k % n:=by
 have h1:=Int.emod_nonneg k (show n≠0 by omega)
 have h2:=Int.emod_lt_of_pos k hn
 rw[Int.tmod_eq_emod]
 by_cases h:0≤k∨n ∣ k
 ·have e:k % n-((0:Nat):Int)=k % n:=by omega
  rw[if_pos h,e,decide_eq_false (by omega)];rfl
 ·rw[if_neg h,decide_eq_true (by omega),cond_true];omega
theorem tmod_lt (k n:Int) (hn:0<n):-n<k.tmod n∧k.tmod n<n:=by
 have h1:=Int.emod_nonneg k (show n≠0 by omega)
 have h2:=Int.emod_lt_of_pos k hn
 rw[Int.tmod_eq_emod]
 by_cases h:0≤k∨n ∣ k
 ·rw[if_pos h];omega
 ·rw[if_neg h]
  have h3:k % n≠0:=fun e=>h (.inr (Int.dvd_of_emod_eq_zero e))
  omega
theorem tdiv_r {k:Int} (h:R64 k) (n:Int) (hn:2≤n):R64 (k.tdiv n):=by
 unfold R64 at h ⊢
 rcases Int.le_total 0 k with h0|h0
 ·rw[Int.tdiv_eq_ediv_of_nonneg h0]
  have h1:=Int.ediv_nonneg h0 (show 0≤n by omega)
  have h2:=Int.ediv_le_self n h0
  omega
 ·have e:k=-(-k):=by omega
  rw[e,Int.neg_tdiv,Int.tdiv_eq_ediv_of_nonneg (show 0≤-k by omega)]
  have h1:=Int.ediv_nonneg (show 0≤-k by omega) (show 0≤n by omega)
  have h4:=Int.ediv_mul_le (-k) (show n≠0 by omega)
  have h5:(-k/n)*2≤(-k/n)*n:=Int.mul_le_mul_of_nonneg_left hn h1
  omega
theorem wrap_tdiv {k:Int} (h:R64 k) (n:Int) (hn:2≤n):IntKind.i64.wrap (k.tdiv n)=k.tdiv n:=by
 have:=tdiv_r h n hn
 unfold R64 at this
 exact wrap64 this.1 this.2
theorem wit_lt (k:Int) {n:Int} (hn:0<n):0≤witF k n∧witF k n<n:=⟨Int.emod_nonneg k (by omega),Int.emod_lt_of_pos k hn⟩
theorem wit_r (k:Int) {n:Int} (hn:0<n) (h2:n≤1000000):R64 (witF k n):=by
 have:=wit_lt k hn
 unfold R64;omega
theorem restN_spec (k n:Int) (hn:0<n) (h2:n≤1000000):APure Tryz.prog 31 [.p (.i .i64 k),.p (.i .i64 n)] (.p (.i .i64 (witF k n))):=by
 have h3:=tmod_emod k n hn
 have h4:=tmod_lt k n hn
 unfold witF
 refine APure.intro (tyOf_ok Tryz.prog) hmix Tryz.func31 rfl (by rfl) (by kernel_rfl) (by show 2≤_;decide) rfl ?_
 conv=>whnf
 refine aneed (show IntKind.i64=IntKind.i64∧n≠0 from⟨rfl,by omega⟩) ?_
 conv=>whnf
 refine asplit ?_ ?_<;>intro h1<;>conv=>whnf
 ·replace h1:decide (k.tmod n<0)=true:=h1
  rw[h1,cond_true]at h3
  refine .inl (pi ?_)
  rw[←h3]
  exact wrap64 (by omega) (by omega)
 ·replace h1:decide (k.tmod n<0)=false:=h1
  rw[h1,cond_false]at h3
  exact .inl (pi h3)
theorem within_spec (k n:Int) (hn:0<n) (h2:n≤1000000):APure Tryz.prog 20 [.p (.i .i64 k),.p (.i .i64 n)] (.p (.i .i64 (witF k n))):=by
 have h:=restN_spec k n hn h2
 generalize witF k n=r at h
 refine APure.intro (tyOf_ok Tryz.prog) hmix Tryz.func20 rfl (by rfl) (by kernel_rfl) (by show 2≤_;decide) rfl ?_
 conv=>whnf
 refine apc h ?_
 conv=>whnf
 exact .inl rfl
end CV
open Go Go.AM Go.Proofs TR
set_option maxRecDepth 100000
namespace CV
mutual
def good:Pt→Bool
 |.mk k _ _ xs=>k != 5&&(decide (xs.length≤1000)&&goods xs)
def goods:List Pt→Bool
 | []=>true
 |x::r=>good x&&goods r
end
theorem goods_mem:∀{l:List Pt},goods l=true↔∀x∈l,good x=true
 | []=>by simp[goods]
 |a::r=>by rw[goods,Bool.and_eq_true,goods_mem];simp
theorem good_mk {k n:Int} {t:ByteArray} {xs:List Pt}:good (.mk k n t xs)=true↔k≠5∧xs.length≤1000∧∀x∈xs,good x=true:=by
 rw[good,Bool.and_eq_true,Bool.and_eq_true,goods_mem];simp
theorem good_nt (x:Pt):good x=true→ntP x=true:=by
 induction x using Pt.ind with
 |h k n t xs ih=>
 intro h
 rw[good_mk]at h
 rw[ntP,Bool.and_eq_true,ntPs_mem]
 exact⟨by simpa using h.1,fun y hy=>ih y hy (h.2.2 y hy)⟩
theorem makes_good {D:Sg} (hD:HD D) (n:ByteArray):∀h∈makesF D n,h.kind=6∧h.args.length≤2:=by
 induction D with
 |nil=>intro h hh;cases hh
 |cons d r ih=>
  intro h hh
  rw[makesF]at hh
  cases hq:d.any (fun x=>x.1==n) with
  |true=>
   rw[hq,cond_true]at hh
   obtain⟨x,hx,rfl⟩:=List.mem_map.1 hh
   refine⟨rfl,?_⟩
   show(anys x.2).length≤2
   rw[anys_len];exact hD d (by simp) x hx
  |false=>
   rw[hq,cond_false]at hh
   exact ih (fun d hd=>hD d (by simp[hd])) h hh
theorem heads_good {D:Sg} (hD:HD D):∀(m:List Row) (l:List Pt),headsF D m=some l→∀h∈l,h.kind≠5∧h.args.length≤2
 | [],l,h=>by cases h
 | []::m,l,h=>by rw[headsF_nil]at h;exact heads_good hD m l h
 |(x::t)::m,l,h=>by
  rw[headsF_cons]at h
  cases h4:x.kind==4 with
  |true=>
   rw[h4,cond_true]at h
   cases h
   intro h hh
   simp at hh
   rcases hh with rfl|rfl<;>decide
  |false=>
   rw[h4,cond_false]at h
   cases h6:x.kind==6 with
   |true=>
    rw[h6,cond_true]at h
    cases h
    intro h hh
    obtain⟨h1,h2⟩:=makes_good hD x.text h hh
    exact⟨by rw[h1];decide,h2⟩
   |false=>rw[h6,cond_false]at h;exact heads_good hD m l h
theorem good_set {h:Pt} (h1:h.kind≠5) (h2:h.args.length≤2) {r:List Pt} (hr:∀x∈r,good x=true):good (setArgs h (r.take h.args.length))=true:=by
 obtain⟨k,n,t,xs⟩:=h
 rw[setArgs,good_mk]
 refine⟨h1,?_,fun x hx=>hr x (List.mem_of_mem_take hx)⟩
 have:=List.length_take_le xs.length r
 simp only[Pt.args]at h2 ⊢
 omega
theorem good_other (m:List Row):good (otherF m)=true:=by
 unfold otherF
 cases ints m with
 |nil=>rfl
 |cons i l=>rw[otherI,good_mk];exact⟨by decide,by simp,by simp⟩
theorem miss_good {D:Sg} (hD:HD D):∀(f:Nat) (m:List Row) (c:Nat) (r:Row),missF D f m c=some (some r)→∀x∈r,good x=true
 |0,_,_,_,h=>by rw[missF]at h;cases h
 |f+1,m,0,r,h=>by
  rw[missF_zero]at h
  cases m with
  |nil=>cases h;simp
  |cons _ _=>cases h
 |f+1,m,c+1,r,h=>by
  rw[missF_succ]at h
  cases hh:headsF D m with
  |some l=>
   rw[hh]at h
   simp only at h
   have hg:=heads_good hD m l hh
   clear hh
   induction l with
   |nil=>rw[missF.missL]at h;cases h
   |cons x l ih=>
    rw[missF.missL]at h
    cases hq:missF D f (underF m x) (x.args.length+c) with
    |none=>rw[hq]at h;cases h
    |some r1=>
     rw[hq]at h
     cases r1 with
     |none=>exact ih h (fun y hy=>hg y (by simp[hy]))
     |some r2=>
      simp only at h
      cases h
      have:=miss_good hD f _ _ _ hq
      obtain⟨g1,g2⟩:=hg x (by simp)
      intro y hy
      rcases List.mem_cons.1 hy with rfl|hy
      ·exact good_set g1 g2 this
      ·exact this y (List.mem_of_mem_drop hy)
  |none=>
   rw[hh]at h
   simp only at h
   cases hq:missF D f (restF m) c with
   |none=>rw[hq]at h;cases h
   |some r1=>
    rw[hq]at h
    cases r1 with
    |none=>cases h
    |some r2=>
     cases h
     have:=miss_good hD f _ _ _ hq
     intro y hy
     rcases List.mem_cons.1 hy with rfl|hy
     ·exact good_other m
     ·exact this y hy
theorem hd_D0:HD D0:=by
 intro d hd x hx
 simp[D0]at hd
 rcases hd with rfl|rfl<;>simp at hx<;>rcases hx with rfl|rfl<;>decide
mutual
def samP:Pt→Pt→Bool
 |.mk k n t xs,.mk k' n' t' ys=>(k==k')&&((n==n')&&((t==t')&&samPs xs ys))
def samPs:List Pt→List Pt→Bool
 | [],[]=>true
 |x::xs,y::ys=>samP x y&&samPs xs ys
 | [],_::_=>false
 |_::_,[]=>false
end
theorem samPs_len:∀(xs ys:List Pt),xs.length≠ys.length→samPs xs ys=false
 | [],[],h=>absurd rfl h
 | [],_::_,_=>by rw[samPs]
 |_::_,[],_=>by rw[samPs]
 |x::xs,y::ys,h=>by rw[samPs,samPs_len xs ys (by simpa using h),Bool.and_false]
theorem samPs_eq:∀(xs:List Pt),(∀x∈xs,∀y,samP x y=true→x=y)→∀ys,samPs xs ys=true→xs=ys
 | [],_,[],_=>rfl
 | [],_,_::_,h=>by rw[samPs]at h;cases h
 |_::_,_,[],h=>by rw[samPs]at h;cases h
 |x::xs,ih,y::ys,h=>by
  rw[samPs,Bool.and_eq_true]at h
  rw[ih x (by simp) y h.1,samPs_eq xs (fun z hz=>ih z (by simp[hz])) ys h.2]
theorem samP_eq (x:Pt):∀y,samP x y=true→x=y:=by
 induction x using Pt.ind with
 |h k n t xs ih=>
 intro y h
 obtain⟨k',n',t',ys⟩:=y
 rw[samP,Bool.and_eq_true,Bool.and_eq_true,Bool.and_eq_true]at h
 rw[samPs_eq xs ih ys h.2.2.2,bq.1 h.2.2.1,eq_of_beq h.2.1,eq_of_beq h.1]
theorem equalPts_spec (xs ys:List Pt) (hx:xs.length≤1000) (f:Nat) (ih:∀a∈xs,∀b,APure Tryz.prog f [.p (eP a),.p (eP b)] (.p (.b (samP a b)))):
 APure Tryz.prog 26 [.p (.sl 4 (ePs xs)),.p (.sl 4 (ePs ys)),.fn f [] []] (.p (.b (samPs xs ys))):=by
 refine APure.intro (tyOf_ok Tryz.prog) hmix Tryz.func26 rfl (by rfl) (by kernel_rfl) (by show 3≤_;decide) rfl ?_
 conv=>whnf
 refine asplit ?_ ?_<;>intro h1<;>conv=>whnf
 ·rw[ePs_len,ePs_len]at h1
  exact .inl (pb (samPs_len xs ys (by simp at h1;omega)).symm)
 rw[ePs_len,ePs_len]at h1
 have hlen:xs.length=ys.length:=by simp at h1;omega
 refine loopS (tyOf_ok _) hmix (by kernel_rfl) xs.length [1,2,15,16,17] [] (fun k (_:Unit)=>[.p (.sl 4 (ePs ys)),.fn f [] [],.p (.sl 4 (ePs xs)),.p (.i .i64 (ePs xs).length),.p (.i .i64 (ix k))]) (fun _ _=>[]) (fun k _=>samPs xs ys=samPs (xs.drop k) (ys.drop k)) () ⟨rfl,rfl,rfl,rfl⟩ rfl ?_
 intro k _ hk hs
 conv=>whnf
 refine asplit ?_ ?_<;>intro h2<;>conv=>whnf
 ·have hk1:=ix_tt h2 (by rw[ePs_len]) hk (by omega)
  obtain⟨a,ha⟩:∃b,xs[k]?=some b:=⟨xs[k],by simp[hk1]⟩
  obtain⟨b,hb⟩:∃b,ys[k]?=some b:=⟨ys[k],by simp[←hlen,hk1]⟩
  have hc:=ih a (List.mem_of_getElem? ha) b
  rw[drop_cons ha,drop_cons hb,samPs]at hs
  generalize samP a b=r at hc hs
  refine aidxk (ePs_get ha) (by omega) ?_
  obtain⟨ak,an,at_,ax⟩:=a
  conv=>whnf
  refine aidxk (ePs_get hb) (by omega) ?_
  obtain⟨bk,bn,bt,bx⟩:=b
  conv=>whnf
  refine apc hc ?_
  conv=>whnf
  refine asplit ?_ ?_<;>intro h3<;>conv=>whnf
  ·simp only[Bool.not_eq_true']at h3
   exact .inl (pb (by rw[hs,h3];rfl))
  ·simp only[Bool.not_eq_false']at h3
   exact⟨hk1,(),⟨rfl,rfl,rfl,rfl⟩,by rw[hs,h3];rfl⟩
 ·have hk1:=ix_ff h2 (by rw[ePs_len]) hk (by omega)
  have e1:xs.drop k=[]:=List.drop_eq_nil_of_le (by omega)
  have e2:ys.drop k=[]:=List.drop_eq_nil_of_le (by omega)
  exact .inl (pb (by rw[hs,e1,e2];rfl))
theorem samePat2_spec (a:Pt):good a=true→∀b,APure Tryz.prog 18 [.p (eP a),.p (eP b)] (.p (.b (samP a b))):=by
 induction a using Pt.ind with
 |h k n t xs ih=>
 intro hg b
 rw[good_mk]at hg
 obtain⟨k',n',t',ys⟩:=b
 have hc:=equalPts_spec xs ys hg.2.1 18 (fun x hx y=>ih x hx (hg.2.2 x hx) y)
 rw[samP]
 generalize samPs xs ys=r at hc
 refine APure.intro (tyOf_ok Tryz.prog) hmix Tryz.func18 rfl (by rfl) (by kernel_rfl) (by show 2≤_;decide) rfl ?_
 conv=>whnf
 refine asplit ?_ ?_<;>intro h1<;>conv=>whnf
 ·replace h1:(k==k')=true:=h1
  rw[h1]
  refine asplit ?_ ?_<;>intro h2<;>conv=>whnf
  ·replace h2:(n==n')=true:=h2
   rw[h2]
   refine asplit ?_ ?_<;>intro h3<;>conv=>whnf
   ·rw[bl_iff]at h3
    rw[h3]
    refine apc hc ?_
    conv=>whnf
    exact .inl rfl
   ·rw[bl_iff]at h3
    rw[h3]
    exact .inl rfl
  ·replace h2:(n==n')=false:=h2
   rw[h2]
   exact .inl rfl
 ·replace h1:(k==k')=false:=h1
  rw[h1]
  exact .inl rfl
end CV
open Go Go.AM Go.Proofs TR
set_option maxRecDepth 100000
namespace CV
mutual
def eV:Vl→PV
 |.int n=>.agg [.i .i64 2,.i .i64 n,.s nostr,.sl 4 []]
 |.bool b=>.agg [.i .i64 3,.i .i64 (bif b then 1 else 0),.s nostr,.sl 4 []]
 |.mk c xs=>.agg [.i .i64 5,.i .i64 0,.s c,.sl 4 (eVs xs)]
def eVs:List Vl→List PV
 | []=>[]
 |x::r=>eV x::eVs r
end
theorem eVs_map (l:List Vl):eVs l=l.map eV:=by
 induction l with
 |nil=>rfl
 |cons t r ih=>simp[eVs,ih]
theorem eVs_len (l:List Vl):(eVs l).length=l.length:=by rw[eVs_map];simp
theorem eVs_get {l:List Vl} {k:Nat} {t:Vl} (h:l[k]?=some t):(eVs l)[k]?=some (eV t):=by rw[eVs_map];simp[h]
theorem fitsL_len:∀(xs:List Pt) (vs:List Vl),xs.length≠vs.length→fitsL xs vs=false
 | [],[],h=>absurd rfl h
 | [],_::_,_=>by rw[fitsL]
 |_::_,[],_=>by rw[fitsL]
 |x::xs,y::ys,h=>by rw[fitsL,fitsL_len xs ys (by simpa using h),Bool.and_false]
theorem fits_of (k n:Int) (t:ByteArray) (xs:List Pt) (v:Vl) (h1:(k==1)=false) (h2:(k==2)=false):fits (.mk k n t xs) v=bif k==3 then (match v with|.int i=>i==n|_=>false) else bif k==4 then (match v with|.bool b=>(bif b then 1 else 0:Int)==n|_=>false)
 else bif k==6 then (match v with|.mk c ys=>(t==c)&&fitsL xs ys|_=>false) else false:=by
 cases v<;>rw[fits,h1,h2]<;>rfl
theorem fits_step (k n:Int) (t:ByteArray) (xs:List Pt) (hx:xs.length≤1000) (ih:∀x∈xs,∀v,APure Tryz.prog 14 [.p (eP x),.p (eV v)] (.p (.b (fits x v)))) (v:Vl):
 APure Tryz.prog 14 [.p (eP (.mk k n t xs)),.p (eV v)] (.p (.b (fits (.mk k n t xs) v))):=by
 have hf:=fits_of k n t xs v
 have hop:=fun h=>fits_open (x:=.mk k n t xs) h v
 generalize fits (.mk k n t xs) v=R at hf hop
 cases v with
 |int i=>
  refine APure.intro (tyOf_ok Tryz.prog) hmix Tryz.func14 rfl (by rfl) (by kernel_rfl) (by show 2≤_;decide) rfl ?_
  conv=>whnf
  refine asplit ?_ ?_<;>intro h1<;>conv=>whnf
  ·refine ast h1 ?_
   conv=>whnf
   replace h1:(k==1)=true:=h1
   exact .inl (pb (hop (by unfold opn;simp only[Pt.kind];rw[h1];rfl)).symm)
  replace h1:(k==1)=false:=h1
  refine asplit ?_ ?_<;>intro h2<;>conv=>whnf
  ·replace h2:(k==2)=true:=h2
   exact .inl (pb (hop (by unfold opn;simp only[Pt.kind];rw[h2,Bool.or_true])).symm)
  replace h2:(k==2)=false:=h2
  replace hf:=hf h1 h2
  refine asplit ?_ ?_<;>intro h3<;>conv=>whnf
  ·replace h3:(k==3)=true:=h3
   rw[h3,cond_true]at hf
   exact .inl (pb hf.symm)
  replace h3:(k==3)=false:=h3
  rw[h3,cond_false]at hf
  refine asplit ?_ ?_<;>intro h4<;>conv=>whnf
  ·replace h4:(k==4)=true:=h4
   rw[h4,cond_true]at hf
   exact .inl (pb hf.symm)
  replace h4:(k==4)=false:=h4
  rw[h4,cond_false]at hf
  refine asplit ?_ ?_<;>intro h5<;>conv=>whnf
  ·replace h5:(k==5)=true:=h5
   rw[show(k==6)=false by rw[eq_of_beq h5];rfl,cond_false]at hf
   exact .inl (pb hf.symm)
  refine asplit ?_ ?_<;>intro h6<;>conv=>whnf
  ·replace h6:(!(k==6))=true:=h6
   rw[Bool.not_eq_true']at h6
   rw[h6,cond_false]at hf
   exact .inl (pb hf.symm)
  replace h6:(!(k==6))=false:=h6
  rw[Bool.not_eq_false']at h6
  rw[h6,cond_true]at hf
  exact .inl (pb hf.symm)
 |bool b=>
  refine APure.intro (tyOf_ok Tryz.prog) hmix Tryz.func14 rfl (by rfl) (by kernel_rfl) (by show 2≤_;decide) rfl ?_
  conv=>whnf
  refine asplit ?_ ?_<;>intro h1<;>conv=>whnf
  ·refine ast h1 ?_
   conv=>whnf
   replace h1:(k==1)=true:=h1
   exact .inl (pb (hop (by unfold opn;simp only[Pt.kind];rw[h1];rfl)).symm)
  replace h1:(k==1)=false:=h1
  refine asplit ?_ ?_<;>intro h2<;>conv=>whnf
  ·replace h2:(k==2)=true:=h2
   exact .inl (pb (hop (by unfold opn;simp only[Pt.kind];rw[h2,Bool.or_true])).symm)
  replace h2:(k==2)=false:=h2
  replace hf:=hf h1 h2
  refine asplit ?_ ?_<;>intro h3<;>conv=>whnf
  ·replace h3:(k==3)=true:=h3
   rw[h3,cond_true]at hf
   exact .inl (pb hf.symm)
  replace h3:(k==3)=false:=h3
  rw[h3,cond_false]at hf
  refine asplit ?_ ?_<;>intro h4<;>conv=>whnf
  ·replace h4:(k==4)=true:=h4
   rw[h4,cond_true]at hf
   exact .inl (pb hf.symm)
  replace h4:(k==4)=false:=h4
  rw[h4,cond_false]at hf
  refine asplit ?_ ?_<;>intro h5<;>conv=>whnf
  ·replace h5:(k==5)=true:=h5
   rw[show(k==6)=false by rw[eq_of_beq h5];rfl,cond_false]at hf
   exact .inl (pb hf.symm)
  refine asplit ?_ ?_<;>intro h6<;>conv=>whnf
  ·replace h6:(!(k==6))=true:=h6
   rw[Bool.not_eq_true']at h6
   rw[h6,cond_false]at hf
   exact .inl (pb hf.symm)
  replace h6:(!(k==6))=false:=h6
  rw[Bool.not_eq_false']at h6
  rw[h6,cond_true]at hf
  exact .inl (pb hf.symm)
 |mk c ys=>
  refine APure.intro (tyOf_ok Tryz.prog) hmix Tryz.func14 rfl (by rfl) (by kernel_rfl) (by show 2≤_;decide) rfl ?_
  conv=>whnf
  refine asplit ?_ ?_<;>intro h1<;>conv=>whnf
  ·refine ast h1 ?_
   conv=>whnf
   replace h1:(k==1)=true:=h1
   exact .inl (pb (hop (by unfold opn;simp only[Pt.kind];rw[h1];rfl)).symm)
  replace h1:(k==1)=false:=h1
  refine asplit ?_ ?_<;>intro h2<;>conv=>whnf
  ·replace h2:(k==2)=true:=h2
   exact .inl (pb (hop (by unfold opn;simp only[Pt.kind];rw[h2,Bool.or_true])).symm)
  replace h2:(k==2)=false:=h2
  replace hf:=hf h1 h2
  refine asplit ?_ ?_<;>intro h3<;>conv=>whnf
  ·replace h3:(k==3)=true:=h3
   rw[h3,cond_true]at hf
   exact .inl (pb hf.symm)
  replace h3:(k==3)=false:=h3
  rw[h3,cond_false]at hf
  refine asplit ?_ ?_<;>intro h4<;>conv=>whnf
  ·replace h4:(k==4)=true:=h4
   rw[h4,cond_true]at hf
   exact .inl (pb hf.symm)
  replace h4:(k==4)=false:=h4
  rw[h4,cond_false]at hf
  refine asplit ?_ ?_<;>intro h5<;>conv=>whnf
  ·replace h5:(k==5)=true:=h5
   rw[show(k==6)=false by rw[eq_of_beq h5];rfl,cond_false]at hf
   exact .inl (pb hf.symm)
  refine asplit ?_ ?_<;>intro h6<;>conv=>whnf
  ·replace h6:(!(k==6))=true:=h6
   rw[Bool.not_eq_true']at h6
   rw[h6,cond_false]at hf
   exact .inl (pb hf.symm)
  replace h6:(!(k==6))=false:=h6
  rw[Bool.not_eq_false']at h6
  rw[h6,cond_true]at hf
  replace hf:R=((t==c)&&fitsL xs ys):=hf
  refine asplit ?_ ?_<;>intro h7<;>conv=>whnf
  ·have h8:(t==c)=false:=by rw[←bl_iff];simpa using h7
   rw[h8,Bool.false_and]at hf
   exact .inl (pb hf.symm)
  have h8:(t==c)=true:=by rw[←bl_iff];simpa using h7
  rw[h8,Bool.true_and]at hf
  refine asplit ?_ ?_<;>intro h9<;>conv=>whnf
  ·rw[ePs_len,eVs_len]at h9
   exact .inl (pb (by rw[hf,fitsL_len xs ys (by simp at h9;omega)]))
  rw[ePs_len,eVs_len]at h9
  have hlen:xs.length=ys.length:=by simp at h9;omega
  refine loopS (tyOf_ok _) hmix (by kernel_rfl) xs.length [2,3,73,74] [2,3] (fun j (_:Unit)=>[.ptr 2 0,.ptr 3 0,.p (.i .i64 (ePs xs).length),.p (.i .i64 (ix j))]) (fun _ _=>[.cells [.p (.i .i64 k),.p (.i .i64 n),.p (.s t),.p (.sl 4 (ePs xs))],.cells [.p (.i .i64 5),.p (.i .i64 0),.p (.s c),.p (.sl 4 (eVs ys))]]) (fun j _=>R=fitsL (xs.drop j) (ys.drop j)) () ⟨rfl,rfl,rfl,rfl⟩ hf ?_
  rintro j _ hj hs
  conv=>whnf
  refine asplit ?_ ?_<;>intro ha<;>conv=>whnf
  ·have hk1:=ix_tt ha (by rw[ePs_len]) hj (by omega)
   obtain⟨a,hax⟩:∃b,xs[j]?=some b:=⟨xs[j],by simp[hk1]⟩
   obtain⟨b,hb⟩:∃b,ys[j]?=some b:=⟨ys[j],by simp[←hlen,hk1]⟩
   have hc:=ih a (List.mem_of_getElem? hax) b
   rw[drop_cons hax,drop_cons hb,fitsL]at hs
   generalize fits a b=r at hc hs
   have hbg:=eVs_get hb
   refine aidxk (ePs_get hax) (by omega) ?_
   obtain⟨ak,an,at_,ax⟩:=a
   conv=>whnf
   refine aidxk hbg (by omega) ?_
   cases b with
   |int i=>
    conv=>whnf
    refine apc hc ?_
    conv=>whnf
    refine aneed (by kernel_rfl) ?_
    conv=>whnf
    refine asplit ?_ ?_<;>intro hd<;>conv=>whnf
    ·simp only[Bool.not_eq_true']at hd
     subst hd
     exact .inl (pb (by rw[hs];rfl))
    ·simp only[Bool.not_eq_false']at hd
     subst hd
     exact⟨hk1,(),⟨rfl,rfl,rfl,rfl⟩,by rw[hs];rfl⟩
   |bool b=>
    conv=>whnf
    refine apc hc ?_
    conv=>whnf
    refine aneed (by kernel_rfl) ?_
    conv=>whnf
    refine asplit ?_ ?_<;>intro hd<;>conv=>whnf
    ·simp only[Bool.not_eq_true']at hd
     subst hd
     exact .inl (pb (by rw[hs];rfl))
    ·simp only[Bool.not_eq_false']at hd
     subst hd
     exact⟨hk1,(),⟨rfl,rfl,rfl,rfl⟩,by rw[hs];rfl⟩
   |mk c2 ys2=>
    conv=>whnf
    refine apc hc ?_
    conv=>whnf
    refine aneed (by kernel_rfl) ?_
    conv=>whnf
    refine asplit ?_ ?_<;>intro hd<;>conv=>whnf
    ·simp only[Bool.not_eq_true']at hd
     subst hd
     exact .inl (pb (by rw[hs];rfl))
    ·simp only[Bool.not_eq_false']at hd
     subst hd
     exact⟨hk1,(),⟨rfl,rfl,rfl,rfl⟩,by rw[hs];rfl⟩
  ·have hk1:=ix_ff ha (by rw[ePs_len]) hj (by omega)
   rw[hk1,List.drop_length,List.drop_eq_nil_of_le (by omega:ys.length≤xs.length),fitsL]at hs
   exact .inl (pb hs.symm)
theorem fits_spec (x:Pt):good x=true→∀v,APure Tryz.prog 14 [.p (eP x),.p (eV v)] (.p (.b (fits x v))):=by
 induction x using Pt.ind with
 |h k n t xs ih=>
 intro hg v
 rw[good_mk]at hg
 exact fits_step k n t xs hg.2.1 (fun y hy w=>ih y hy (hg.2.2 y hy) w) v
end CV
