/- Part of a machine over plain values. No conditions. -/
import Derived.Test.YtdmopjgjhfhfdaaGreatDoorAMSnd
import Derived.Laws.BytesString
namespace Go.AM
section
variable {P:Program} {ty:Nat→Option TI} {n:Nat} {o:Oper} {e:Env} {h:Heap} {K:AK}
theorem aUn_sound (hd:∀d,o.dst=some d→d<n) {op:UnOp} {t:TypeId} {x:Operand} (ho:o.op=.unOp op t x)
 (hk:aUn o op (ev e x) K):∃f,K f∧OpOK P n o e h f:=by
 have m1:x∈o.op.operands:=by simp[ho,Op.operands]
 unfold aUn at hk;split at hk
 ·rename_i a1 hx
  refine ret_sound hd hk fun e' h' he g w a s=>?_;obtain⟨_,r1⟩:=s.evo he m1 hx;exact⟨.bool (!a1),by simp[execOp,ho,r1.bool,Op.unary],fun d _=>.p _ _ _ (.b _)⟩
 ·rename_i k a1 hx
  refine ret_sound hd hk fun e' h' he g w a s=>?_;obtain⟨_,r1⟩:=s.evo he m1 hx;exact⟨.int k (k.wrap (0-a1)),by simp[execOp,ho,r1.int,Op.unary,Op.intArith],fun d _=>.p _ _ _ (.i _ _)⟩
 ·exact hk.elim
theorem convert_int {src dst:TypeId} {d:TypeDesc} {k k':IntKind} {m:Int} (hs:P.underlying src=some d) (hu:P.underlying dst=some (.int k)) (w:World):
 (convert src dst (.int k' m)).run P w=.ok (.int k (k.wrap m)) w:=by
 unfold convert;simp only[Sem.run_bind,run_underlying hs,run_underlying hu,Result.andThen_ok];simp[Conv.intToInt]
theorem Addr.add_plain {b off k:Nat}:(⟨b,off,none⟩:Addr).add k=⟨b,off+k,none⟩:=by
 unfold Addr.add;split
 ·rename_i h;subst h;rfl
 ·rfl
theorem Addr.add_of_spot {a:Addr} (h:a.spot=none) (k:Nat):a.add k=⟨a.block,a.off+k,none⟩:=by
 cases a;simp only at h;subst h;exact Addr.add_plain
theorem aConv_sound (hty:TyOK P ty) (hd:∀d,o.dst=some d→d<n) {src dst:TypeId} {x:Operand} (ho:o.op=.convert src dst x)
 (hk:match ty src,ty dst,ev e x with
   |some _,some i,.p (.i _ n)=>match i.desc with
    |.int k=>ret o (.p (.i k (k.wrap n))) K
    |_=>AStuck "convert"
   |some _,some i,.p (.s x)=>match i.desc with
    |.string=>ret o (.p (.s x)) K
    |_=>AStuck "convert"
   |some si,some i,v=>aConvB ty o si i v K
   |_,_,_=>AStuck "convert"):∃f,K f∧OpOK P n o e h f:=by
 have m1:x∈o.op.operands:=by simp[ho,Op.operands]
 split at hk
 ·rename_i j i k' m hs hi hx
  split at hk
  ·rename_i k hdk
   refine ret_sound hd hk fun e' h' he g w a s=>?_;obtain⟨_,r1⟩:=s.evo he m1 hx;refine⟨.int k (k.wrap m),?_,fun d _=>.p _ _ _ (.i _ _)⟩;have hu:=(hty dst i hi).und;rw[hdk]at hu;simp only[execOp,ho,r1.int,Sem.run_bind,convert_int (hty src j hs).und hu,Result.andThen_ok,Sem.run_pure]
  ·exact hk.elim
 ·rename_i j i y hs hi hx
  split at hk
  ·rename_i hdk
   refine ret_sound hd hk fun e' h' he g w a s=>?_;obtain⟨_,r1⟩:=s.evo he m1 hx;refine⟨.string y,?_,fun d _=>.p _ _ _ (.s _)⟩;have hu:=(hty dst i hi).und;rw[hdk]at hu
   have:(convert src dst (.string y)).run P w=.ok (.string y) w:=by
    unfold convert;simp only[Sem.run_bind,run_underlying (hty src j hs).und,run_underlying hu,Result.andThen_ok];rfl
   simp only[execOp,ho,r1.str,Sem.run_bind,this,Result.andThen_ok,Sem.run_pure]
  ·exact hk.elim
 ·rename_i si i hs hi _ _
  unfold aConvB at hk;split at hk
  ·rename_i el sz xs hsd hid hpv
   split at hk
   ·rename_i j hsz hel
    split at hk
    ·rename_i hu8
     obtain⟨ns,_,hxs,rfl,hk⟩:=hk;have hsz:=Nat.eq_of_beq_eq_true hsz;subst hsz;refine ret_sound hd hk fun e' h' he g w a s=>?_;obtain⟨_,r1⟩:=s.evo he m1 rfl;have r2:=pure?_rel r1 hpv;refine⟨.string (bytesS ns),?_,fun d _=>.p _ _ _ (.s _)⟩;have u1:=(hty src si hs).und;rw[hsd]at u1;have u2:=(hty dst i hi).und;rw[hid]at u2;have u3:=(hty el j hel).und;rw[hu8]at u3;subst hxs
     have hrun:(convert src dst (a.eval x)).run P w=.ok (.string (bytesS ns)) w:=by
      generalize hv:a.eval x=v at r2;generalize hq:ns.map (PV.i .u8)=q at r2
      cases r2 with
      |nil=>
       have:ns=[]:=by simpa using hq
       subst this;rw[run_convert_bytes_string w src dst el none 0 0 u1 u3 u2];rfl
      |sl ad cap _ _ f hsp hc hz hm hx=>
       subst hq;rw[run_convert_bytes_string w src dst el (some ad) _ cap u1 u3 u2];refine run_bytesToString w ad _ cap ns ?_
       have key:∀(j:Nat) (v:Value),(ns.map (Value.int .u8))[j]?=some v→w.cell? (ad.add j)=some v:=by
        intro j v hj;rw[List.getElem?_map,Option.map_eq_some_iff]at hj;obtain⟨b,hb,rfl⟩:=hj
        have hpos:cap≠0:=fun q=>by
         have:=(List.getElem?_eq_some_iff.1 hb).1;simp at hc;omega
        have hj1:(ns.map (PV.i .u8))[j]?=some (.i .u8 b):=by rw[List.getElem?_map,hb];rfl
        have h1:=(hm j _ hj1 0 (.i .u8 b) rfl).1;have h2:=hx j _ hj1 0 (.i .u8 b) rfl;generalize f j 0=u at h1 h2;cases h2
        have h3:w.cell? ⟨ad.block,ad.off+j*1+0,none⟩=some (.int .u8 b):=by
         simp only[imm_eq]at h1;split at h1
         ·exact h1
         ·cases h1
        have hadd:ad.add j=⟨ad.block,ad.off+j,none⟩:=by
         have hn:=hsp hpos;clear h1 h3 hm hsp
         cases ad;simp only at hn;subst hn;exact Addr.add_plain
        rw[hadd];simpa using h3
       have:=run_loadCells_list (P:=P) w ad (ns.map (Value.int .u8)) key;simpa using this
     simp only[execOp,ho,Sem.run_bind,hrun,Result.andThen_ok,Sem.run_pure]
    ·exact hk.elim
   ·exact hk.elim
  ·exact hk.elim
 ·exact hk.elim
theorem evs_get (e:Env):∀(xs:List Operand) (j:Nat),(evs e xs)[j]?=(xs[j]?).map fun x=>(ev e x).copy
 | [],j=>by simp[evs]
 |x::r,0=>by simp[evs]
 |x::r,j+1=>by simp[evs,evs_get e r j]
theorem evs_length (e:Env) (xs:List Operand):(evs e xs).length=xs.length:=by
 induction xs with
 |nil=>rfl
 |cons x r ih=>simp[evs,ih]
theorem aFunc_sound (hd:∀d,o.dst=some d→d<n) {f:Nat} {first caps:List Operand} (ho:o.op=.makeFunc (.func f) ⟨first⟩ ⟨caps⟩) (hk:ret o (.fn f (evs e first) (evs e caps)) K):∃f,K f∧OpOK P n o e h f:=by
 refine ret_sound hd hk fun e' h' he g w a s=>⟨.func (.func f) (first.map a.eval).toArray (caps.map a.eval).toArray,by simp[execOp,ho,Instr.makeFunc],fun d _=>?_⟩
 have key:∀(xs:List Operand),(∀x∈xs,x∈o.op.operands)→∀(j:Nat) (v:Value) (c:AV),(xs.map a.eval)[j]?=some v→(evs e xs)[j]?=some c→VRel g w (domOf h') none v c:=by
  intro xs hxs j v c hv hc;rw[evs_get]at hc;rw[List.getElem?_map]at hv
  cases hx:xs[j]? with
  |none=>simp[hx]at hv
  |some x=>
   simp only[hx,Option.map_some,Option.some.injEq]at hv hc;subst hv;subst hc;obtain⟨_,r⟩:=s.evo he (hxs x (List.mem_of_getElem? hx)) rfl;exact r.copy
 refine .fn _ f _ _ _ _ (by simp[evs_length]) (by simp[evs_length]) (key first fun x hx=>by simp[ho,Op.operands,hx]) (key caps fun x hx=>by simp[ho,Op.operands,hx])
theorem aNil_sound (hd:∀d,o.dst=some d→d<n) {x:Operand} (ho:o.op=.nilCheck x)
 (hk:match ev e x with
   |.ptr l off=>ret o (.ptr l off) K
   |.vp cs=>ret o (.vp cs) K
   |.fn f a b=>ret o (.fn f a b) K
   |_=>AStuck "nilCheck"):∃f,K f∧OpOK P n o e h f:=by
 have m1:x∈o.op.operands:=by simp[ho,Op.operands]
 split at hk
 ·rename_i l off hx
  refine ret_sound hd hk fun e' h' he g w a s=>?_;obtain⟨_,r1⟩:=s.evo he m1 hx;generalize hv:a.eval x=v at r1
  cases r1 with
  |ptr _ _ _ hdm=>exact⟨_,by simp[execOp,ho,hv],fun d _=>.ptr _ _ _ hdm⟩
 ·rename_i cs hx
  refine ret_sound hd hk fun e' h' he g w a s=>?_;obtain⟨_,r1⟩:=s.evo he m1 hx;generalize hv:a.eval x=v at r1
  cases r1 with
  |vp _ ad _ f hs hm hx=>exact⟨_,by simp[execOp,ho,hv],fun d _=>.vp _ ad _ f hs hm hx⟩
 ·rename_i f a1 b1 hx
  refine ret_sound hd hk fun e' h' he g w a s=>?_;obtain⟨_,r1⟩:=s.evo he m1 hx;generalize hv:a.eval x=v at r1
  cases r1 with
  |fn _ _ fs cs _ _ h1 h2 hf hc=>exact⟨_,by simp[execOp,ho,hv],fun d _=>.fn _ _ fs cs _ _ h1 h2 hf hc⟩
 ·exact hk.elim
theorem fieldOf_spec (hty:TyOK P ty) {t f:Nat} {fd:Field} (hf:fieldOf ty t f=some fd):∃fs,P.underlying t=some (.struct fs)∧fs[f]?=some fd:=by
 unfold fieldOf at hf;split at hf
 ·rename_i i hi
  split at hf
  ·rename_i fs hfs
   refine⟨fs,?_,by simpa using hf⟩;rw[←hfs];exact(hty t i hi).und
  ·cases hf
 ·cases hf
theorem run_sizeOf_ty (hty:TyOK P ty) {t:Nat} {i:TI} (hi:ty t=some i) (w:World):(sizeOf t).run P w=.ok i.size w:=by
 obtain⟨inf,z,h1,h2,_⟩:=(hty t i hi).inf;simp[sizeOf,typeInfo,h1,h2]
theorem run_isAgg_ty (hty:TyOK P ty) {t:Nat} {i:TI} (hi:ty t=some i) (w:World):(isAgg t).run P w=.ok (isAggD i.desc) w:=by
 unfold isAgg;simp only[Sem.run_bind,run_underlying (hty t i hi).und,Result.andThen_ok];cases i.desc<;>rfl
theorem run_fieldAt (hty:TyOK P ty) {t f:Nat} {fd:Field} {j:TI} (hf:fieldOf ty t f=some fd) (hj:ty fd.type=some j) (hz:Nat.beq j.size 0=false) {a:Addr} (hs:a.spot=none) (w:World):
 (Instr.fieldAt t (.pointer (some a)) f).run P w=.ok (.pointer (some ⟨a.block,a.off+fd.offset,none⟩)) w:=by
 obtain⟨fs,h1,h2⟩:=fieldOf_spec hty hf;have hne:j.size≠0:=fun e=>by rw[e]at hz;cases hz
 simp only[Instr.fieldAt,Sem.run_bind,run_underlying h1,Result.andThen_ok,h2,Instr.sureAddr,Sem.run_pure,fieldPlace,run_sizeOf_ty hty hj,if_neg hne,Addr.add_of_spot hs]
theorem aFieldAddr_sound (hty:TyOK P ty) (hd:∀d,o.dst=some d→d<n) {t f:Nat} {x:Operand} (ho:o.op=.fieldAddr t x f)
 (hk:match fieldOf ty t f with
   |some fd=>match ty fd.type with
    |some j=>match Nat.beq j.size 0,ev e x with
     |false,.ptr l off=>ret o (.ptr l (off+fd.offset)) K
     |false,.vp cs=>ret o (.vp (cs.drop fd.offset)) K
     |_,_=>AStuck "fieldAddr"
    |none=>AStuck "fieldAddr"
   |none=>AStuck "fieldAddr"):∃f,K f∧OpOK P n o e h f:=by
 have m1:x∈o.op.operands:=by simp[ho,Op.operands]
 split at hk
 ·rename_i fd hfd
  split at hk
  ·rename_i j hj
   split at hk
   ·rename_i l off hz hx
    refine ret_sound hd hk fun e' h' he g w a s=>?_;obtain⟨_,r1⟩:=s.evo he m1 hx;generalize hv:a.eval x=v at r1
    cases r1 with
    |ptr _ _ _ hdm=>
     refine⟨.pointer (some ⟨g.ρ l,off+fd.offset,none⟩),?_,fun d _=>.ptr _ _ _ hdm⟩;simp only[execOp,ho,hv,Sem.run_bind,run_fieldAt hty hfd hj hz (a:=⟨g.ρ l,off,none⟩) rfl,Result.andThen_ok,Sem.run_pure]
   ·rename_i cs hz hx
    refine ret_sound hd hk fun e' h' he g w a s=>?_;obtain⟨_,r1⟩:=s.evo he m1 hx;generalize hv:a.eval x=v at r1
    cases r1 with
    |vp _ ad _ f hs hm hx=>
     refine⟨.pointer (some ⟨ad.block,ad.off+fd.offset,none⟩),?_,fun d _=>.vp _ _ _ (fun i=>f (fd.offset+i)) rfl (fun i y hy=>?_) (fun i y hy=>?_)⟩
     ·simp only[execOp,ho,hv,Sem.run_bind,run_fieldAt hty hfd hj hz hs,Result.andThen_ok,Sem.run_pure]
     ·rw[List.getElem?_drop]at hy
      have:=hm (fd.offset+i) y hy;rw[Nat.add_assoc];exact this
     ·rw[List.getElem?_drop]at hy
      exact hx (fd.offset+i) y hy
   ·exact hk.elim
  ·exact hk.elim
 ·exact hk.elim
theorem aField_sound (hty:TyOK P ty) (hd:∀d,o.dst=some d→d<n) {t f:Nat} {x:Operand} (ho:o.op=.field t x f)
 (hk:match fieldOf ty t f with
 |some fd=>match ty fd.type with
  |some j=>match (ev e x).aggCells? with
   |some cs=>match isAggD j.desc with
    |true=>match getAt cs fd.offset j.size with
     |some l=>ret o (mkAgg l j.csz) K
     |none=>AStuck "field"
    |false=>match cs[fd.offset]? with
     |some v=>ret o v.copy K
     |none=>AStuck "field"
   |none=>AStuck "field"
  |none=>AStuck "field"
 |none=>AStuck "field"):∃f,K f∧OpOK P n o e h f:=by
 have m1:x∈o.op.operands:=by simp[ho,Op.operands]
 split at hk
 ·rename_i fd hfd
  obtain⟨fs,hu,hfs⟩:=fieldOf_spec hty hfd;split at hk
  ·rename_i j hj
   split at hk
   ·rename_i cs hcs
    have hval:∀{e':Env} {h':Heap} {g:Gh} {w:World} {a:Act},(∀t∈slotsOf o,eget e' t=eget e t)→Sim g w n a e' h'→∃vs:List Value,a.eval x=.agg vs.toArray∧vs.length=cs.length∧(∀u∈vs,u.oneCell'=true)∧
     ∀(j:Nat) (u:Value) (c:AV),vs[j]?=some u→cs[j]?=some c→VRel g w (domOf h') none u c:=by
     intro e' h' g w a he s;obtain⟨_,r1⟩:=s.evo he m1 rfl
     have hagg:(∃xs,ev e x=.p (.agg xs))∨∃cs,ev e x=.agg cs:=by
      unfold AV.aggCells? at hcs;split at hcs
      ·rename_i q;exact .inl ⟨_,q⟩
      ·rename_i q;exact .inr ⟨_,q⟩
      ·cases hcs
     rcases hagg with⟨xs,hx⟩|⟨cs',hx⟩
     ·rw[hx]at r1 hcs
      generalize hv:a.eval x=v at r1
      cases r1 with
      |p _ _ _ hp=>
       cases hp with
       |agg vs _ hl h1 hx=>
        simp only[AV.aggCells?,Option.some.injEq]at hcs;subst hcs;refine⟨vs,rfl,by simp[pCells_length,hl],h1,fun j u c hu hc=>?_⟩;rw[pCells_get]at hc
        cases hxs:xs[j]? with
        |none=>simp[hxs]at hc
        |some y=>
         simp only[hxs,Option.map_some,Option.some.injEq]at hc;subst hc;exact .p _ _ _ (hx j u y hu hxs)
     ·rw[hx]at r1 hcs
      generalize hv:a.eval x=v at r1
      cases r1 with
      |agg _ vs _ hl h1 hx=>
       simp only[AV.aggCells?,Option.some.injEq]at hcs;subst hcs;exact⟨vs,rfl,hl,h1,hx⟩
    split at hk
    ·rename_i hag
     split at hk
     ·rename_i l hl
      obtain⟨hl1,hl2⟩:=getAt_spec _ _ _ _ hl;refine ret_sound hd hk fun e' h' he g w a s=>?_;obtain⟨vs,hv,hlen,h1,hx⟩:=hval he s
      have hsz:fd.offset+j.size≤vs.length∨j.size=0:=by
       rcases Nat.eq_zero_or_pos j.size with h0|h0
       ·exact .inr h0
       ·left
        have:=hl2 (j.size-1) (by omega)
        have hlt:fd.offset+(j.size-1)<cs.length:=by
         rcases Nat.lt_or_ge (fd.offset+(j.size-1)) cs.length with h2|h2
         ·exact h2
         ·rw[List.getElem?_eq_none h2,List.getElem?_eq_none_iff]at this;omega
        omega
      refine⟨.agg ((vs.drop fd.offset).take j.size).toArray,?_,fun d _=>mkAgg_rel _ _ _ ?_ (fun v hv=>h1 v (List.mem_of_mem_drop (List.mem_of_mem_take hv))) fun i v c hvi hc=>?_⟩
      ·have:(vs.toArray.extract fd.offset (fd.offset+j.size))=((vs.drop fd.offset).take j.size).toArray:=by
        apply Array.ext'
        simp[List.extract_eq_take_drop]
       simp only[execOp,ho,hv,Instr.field,Sem.run_bind,run_underlying hu,Result.andThen_ok,hfs,asAgg,Sem.run_pure,part,run_isAgg_ty hty hj,hag,if_true,run_sizeOf_ty hty hj,this]
      ·simp[hl1];omega
      ·have hi:i<j.size:=by
        rcases Nat.lt_or_ge i l.length with h2|h2
        ·omega
        ·rw[List.getElem?_eq_none h2]at hc;cases hc
       rw[List.getElem?_take,if_pos hi,List.getElem?_drop]at hvi;rw[hl2 i hi]at hc;exact⟨none,hx _ _ _ hvi hc⟩
     ·exact hk.elim
    ·rename_i hag
     split at hk
     ·rename_i c hc
      refine ret_sound hd hk fun e' h' he g w a s=>?_;obtain⟨vs,hv,hlen,h1,hx⟩:=hval he s;have hlt:fd.offset<vs.length:=by have:=(List.getElem?_eq_some_iff.1 hc).1;omega
      refine⟨vs[fd.offset],?_,fun d _=>(hx fd.offset _ c (by simp[hlt]) hc).copy⟩;simp[execOp,ho,hv,Instr.field,run_underlying hu,hfs,asAgg,part,run_isAgg_ty hty hj,hag,hlt]
     ·exact hk.elim
   ·exact hk.elim
  ·exact hk.elim
 ·exact hk.elim
theorem aExtract_sound (hd:∀d,o.dst=some d→d<n) {x:Operand} {m:Nat} (ho:o.op=.extract x m)
 (hk:match ev e x with
 |.tup vs=>match vs[m]? with
  |some v=>ret o v.copy K
  |none=>AStuck "extract"
 |_=>AStuck "extract"):∃f,K f∧OpOK P n o e h f:=by
 have m1:x∈o.op.operands:=by simp[ho,Op.operands]
 split at hk
 ·rename_i cs hx
  split at hk
  ·rename_i c hc
   refine ret_sound hd hk fun e' h' he g w a s=>?_;obtain⟨_,r1⟩:=s.evo he m1 hx;generalize hv:a.eval x=v at r1
   cases r1 with
   |tup _ vs _ hl hx=>
    have hlt:m<vs.length:=by have:=(List.getElem?_eq_some_iff.1 hc).1;omega
    refine⟨vs[m],?_,fun d _=>(hx m _ c (by simp[hlt]) hc).copy⟩;simp[execOp,ho,hv,Instr.extract,hlt]
  ·exact hk.elim
 ·exact hk.elim
end
end Go.AM
