/- Contracts, and the law, for every input. No conditions. -/
import Derived.Test.YtdmopjgjhfhfdaaGreatDoorME1
open Go Go.AM Go.Proofs TK
set_option maxRecDepth 100000
namespace MN
theorem out_at {outs:List Ou} {q:List (Int×Int)} (h:outs.map (fun o=>(o.kind,o.num))=q) {j:Nat} {k n:Int} (hj:q[j]?=some (k,n)):∃o:Ou,outs[j]?=some o∧o.kind=k∧o.num=n:=by
 rw[←h,List.getElem?_map]at hj
 cases ho:outs[j]? with
 |none=>rw[ho]at hj;cases hj
 |some o=>
  rw[ho]at hj;cases hj;exact⟨o,rfl,rfl,rfl⟩
theorem out_len {outs:List Ou} {q:List (Int×Int)} (h:outs.map (fun o=>(o.kind,o.num))=q):(eOl outs).length=q.length:=by
 rw[←h];unfold eOl;simp
theorem eOl_at {outs:List Ou} {j:Nat} {k n v4 v5:Int} {t v6:ByteArray} {v7 v8:List Ov} (h:outs[j]?=some ⟨k,n,t,v4,v5,v6,v7,v8⟩):(eOl outs)[j]?=some (.agg [.i .i64 k,.i .i64 n,.s t,.i .i64 v4,.i .i64 v5,.s v6,.sl 4 (eOs v7),.sl 4 (eOs v8)]):=by
 unfold eOl;rw[List.getElem?_map,h];rfl
end MN
