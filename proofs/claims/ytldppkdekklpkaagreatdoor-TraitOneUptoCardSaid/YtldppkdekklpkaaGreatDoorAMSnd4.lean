/- Part of a machine over plain values. No conditions. -/
import Derived.Test.YtldppkdekklpkaaGreatDoorAMSnd
import Derived.Laws.BytesString
import Derived.MapKept
set_option linter.all false
section
namespace Go.AM
section
variable {P:Program} {ty:Nat→Option TI} {n:Nat} {o:Oper} {e:Env} {h:Heap} {K:AK}
theorem aUn_sound (hd:∀d,o.dst=some d→d<n) {op:UnOp} {t:TypeId} {x:Operand} (ho:o.op=.unOp op t x)
 (hk:aUn o op (ev e x) K):∃f,K f∧OpOK P n o e h f:=by
 have m1:x∈o.op.operands:=by simp[ho,Op.operands]
 unfold aUn at hk;split at hk
 ·rename_i a1 hx
  refine ret_sound hd hk fun e' h' he g w a s=>?_;obtain⟨_,r1⟩:=s.evo he m1 hx;exact⟨.bool (!a1),by simp[execOp,ho,r1.bool,Op.unary],fun d _=>.p _ _ _ (.b _)⟩
 ·rename_i k a1 hx
  refine ret_sound hd hk fun e' h' he g w a s=>?_;obtain⟨_,r1⟩:=s.evo he m1 hx;exact⟨.int k (k.wrap (0-a1)),by simp[execOp,ho,r1.int,Op.unary,Op.intArith],fun d _=>.p _ _ _ (.i _ _)⟩
 ·exact hk.elim
theorem convert_int {src dst:TypeId} {d:TypeDesc} {k k':IntKind} {m:Int} (hs:P.underlying src=some d) (hu:P.underlying dst=some (.int k)) (w:World):
 (convert src dst (.int k' m)).run P w=.ok (.int k (k.wrap m)) w:=by
 unfold convert;simp only[Sem.run_bind,run_underlying hs,run_underlying hu,Result.andThen_ok];simp[Conv.intToInt]
theorem Addr.add_plain {b off k:Nat}:(⟨b,off,none⟩:Addr).add k=⟨b,off+k,none⟩:=by
 unfold Addr.add;split
 ·rename_i h;subst h;rfl
 ·rfl
theorem Addr.add_of_spot {a:Addr} (h:a.spot=none) (k:Nat):a.add k=⟨a.block,a.off+k,none⟩:=by
 cases a;simp only at h;subst h;exact Addr.add_plain
theorem aConv_sound (hty:TyOK P ty) (hd:∀d,o.dst=some d→d<n) {src dst:TypeId} {x:Operand} (ho:o.op=.convert src dst x)
 (hk:match ty src,ty dst,ev e x with
   |some _,some i,.p (.i _ n)=>match i.desc with
    |.int k=>ret o (.p (.i k (k.wrap n))) K
    |_=>AStuck "convert"
   |some _,some i,.p (.s x)=>match i.desc with
    |.string=>ret o (.p (.s x)) K
    |_=>AStuck "convert"
   |some si,some i,v=>aConvB ty o si i v K
   |_,_,_=>AStuck "convert"):∃f,K f∧OpOK P n o e h f:=by
 have m1:x∈o.op.operands:=by simp[ho,Op.operands]
 split at hk
 ·rename_i j i k' m hs hi hx
  split at hk
  ·rename_i k hdk
   refine ret_sound hd hk fun e' h' he g w a s=>?_;obtain⟨_,r1⟩:=s.evo he m1 hx;refine⟨.int k (k.wrap m),?_,fun d _=>.p _ _ _ (.i _ _)⟩;have hu:=(hty dst i hi).und;rw[hdk]at hu;simp only[execOp,ho,r1.int,Sem.run_bind,convert_int (hty src j hs).und hu,Result.andThen_ok,Sem.run_pure]
  ·exact hk.elim
 ·rename_i j i y hs hi hx
  split at hk
  ·rename_i hdk
   refine ret_sound hd hk fun e' h' he g w a s=>?_;obtain⟨_,r1⟩:=s.evo he m1 hx;refine⟨.string y,?_,fun d _=>.p _ _ _ (.s _)⟩;have hu:=(hty dst i hi).und;rw[hdk]at hu
   have:(convert src dst (.string y)).run P w=.ok (.string y) w:=by
    unfold convert;simp only[Sem.run_bind,run_underlying (hty src j hs).und,run_underlying hu,Result.andThen_ok];rfl
   simp only[execOp,ho,r1.str,Sem.run_bind,this,Result.andThen_ok,Sem.run_pure]
  ·exact hk.elim
 ·rename_i si i hs hi _ _
  unfold aConvB at hk;split at hk
  ·rename_i el sz xs hsd hid hpv
   split at hk
   ·rename_i j hsz hel
    split at hk
    ·rename_i hu8
     obtain⟨ns,_,hxs,rfl,hk⟩:=hk;have hsz:=Nat.eq_of_beq_eq_true hsz;subst hsz;refine ret_sound hd hk fun e' h' he g w a s=>?_;obtain⟨_,r1⟩:=s.evo he m1 rfl;have r2:=pure?_rel r1 hpv;refine⟨.string (bytesS ns),?_,fun d _=>.p _ _ _ (.s _)⟩;have u1:=(hty src si hs).und;rw[hsd]at u1;have u2:=(hty dst i hi).und;rw[hid]at u2;have u3:=(hty el j hel).und;rw[hu8]at u3;subst hxs
     have hrun:(convert src dst (a.eval x)).run P w=.ok (.string (bytesS ns)) w:=by
      generalize hv:a.eval x=v at r2;generalize hq:ns.map (PV.i .u8)=q at r2
      cases r2 with
      |nil=>
       have:ns=[]:=by simpa using hq
       subst this;rw[run_convert_bytes_string w src dst el none 0 0 u1 u3 u2];rfl
      |sl ad cap _ _ f hsp hc hz hm hx=>
       subst hq;rw[run_convert_bytes_string w src dst el (some ad) _ cap u1 u3 u2];refine run_bytesToString w ad _ cap ns ?_
       have key:∀(j:Nat) (v:Value),(ns.map (Value.int .u8))[j]?=some v→w.cell? (ad.add j)=some v:=by
        intro j v hj;rw[List.getElem?_map,Option.map_eq_some_iff]at hj;obtain⟨b,hb,rfl⟩:=hj
        have hpos:cap≠0:=fun q=>by
         have:=(List.getElem?_eq_some_iff.1 hb).1;simp at hc;omega
        have hj1:(ns.map (PV.i .u8))[j]?=some (.i .u8 b):=by rw[List.getElem?_map,hb];rfl
        have h1:=(hm j _ hj1 0 (.i .u8 b) rfl).1;have h2:=hx j _ hj1 0 (.i .u8 b) rfl;generalize f j 0=u at h1 h2;cases h2
        have h3:w.cell? ⟨ad.block,ad.off+j*1+0,none⟩=some (.int .u8 b):=by
         simp only[imm_eq]at h1;split at h1
         ·exact h1
         ·cases h1
        have hadd:ad.add j=⟨ad.block,ad.off+j,none⟩:=by
         have hn:=hsp hpos;clear h1 h3 hm hsp
         cases ad;simp only at hn;subst hn;exact Addr.add_plain
        rw[hadd];simpa using h3
       have:=run_loadCells_list (P:=P) w ad (ns.map (Value.int .u8)) key;simpa using this
     simp only[execOp,ho,Sem.run_bind,hrun,Result.andThen_ok,Sem.run_pure]
    ·exact hk.elim
   ·exact hk.elim
  ·exact hk.elim
 ·exact hk.elim
theorem evs_get (e:Env):∀(xs:List Operand) (j:Nat),(evs e xs)[j]?=(xs[j]?).map fun x=>(ev e x).copy
 | [],j=>by simp[evs]
 |x::r,0=>by simp[evs]
 |x::r,j+1=>by simp[evs,evs_get e r j]
theorem evs_length (e:Env) (xs:List Operand):(evs e xs).length=xs.length:=by
 induction xs with
 |nil=>rfl
 |cons x r ih=>simp[evs,ih]
theorem aFunc_sound (hd:∀d,o.dst=some d→d<n) {f:Nat} {first caps:List Operand} (ho:o.op=.makeFunc (.func f) ⟨first⟩ ⟨caps⟩) (hk:ret o (.fn f (evs e first) (evs e caps)) K):∃f,K f∧OpOK P n o e h f:=by
 refine ret_sound hd hk fun e' h' he g w a s=>⟨.func (.func f) (first.map a.eval).toArray (caps.map a.eval).toArray,by simp[execOp,ho,Instr.makeFunc],fun d _=>?_⟩
 have key:∀(xs:List Operand),(∀x∈xs,x∈o.op.operands)→∀(j:Nat) (v:Value) (c:AV),(xs.map a.eval)[j]?=some v→(evs e xs)[j]?=some c→VRel g w (domOf h') none v c:=by
  intro xs hxs j v c hv hc;rw[evs_get]at hc;rw[List.getElem?_map]at hv
  cases hx:xs[j]? with
  |none=>simp[hx]at hv
  |some x=>
   simp only[hx,Option.map_some,Option.some.injEq]at hv hc;subst hv;subst hc;obtain⟨_,r⟩:=s.evo he (hxs x (List.mem_of_getElem? hx)) rfl;exact r.copy
 refine .fn _ f _ _ _ _ (by simp[evs_length]) (by simp[evs_length]) (key first fun x hx=>by simp[ho,Op.operands,hx]) (key caps fun x hx=>by simp[ho,Op.operands,hx])
theorem aNil_sound (hd:∀d,o.dst=some d→d<n) {x:Operand} (ho:o.op=.nilCheck x)
 (hk:match ev e x with
   |.ptr l off=>ret o (.ptr l off) K
   |.vp cs=>ret o (.vp cs) K
   |.ep l sz m c=>ret o (.ep l sz m c) K
   |.fn f a b=>ret o (.fn f a b) K
   |_=>AStuck "nilCheck"):∃f,K f∧OpOK P n o e h f:=by
 have m1:x∈o.op.operands:=by simp[ho,Op.operands]
 split at hk
 ·rename_i l off hx
  refine ret_sound hd hk fun e' h' he g w a s=>?_;obtain⟨_,r1⟩:=s.evo he m1 hx;generalize hv:a.eval x=v at r1
  cases r1 with
  |ptr _ _ _ hdm=>exact⟨_,by simp[execOp,ho,hv],fun d _=>.ptr _ _ _ hdm⟩
 ·rename_i cs hx
  refine ret_sound hd hk fun e' h' he g w a s=>?_;obtain⟨_,r1⟩:=s.evo he m1 hx;generalize hv:a.eval x=v at r1
  cases r1 with
  |vp _ ad _ f hs hm hx=>exact⟨_,by simp[execOp,ho,hv],fun d _=>.vp _ ad _ f hs hm hx⟩
 ·rename_i l sz m c hx
  refine ret_sound hd hk fun e' h' he g w a s=>?_;obtain⟨_,r1⟩:=s.evo he m1 hx;generalize hv:a.eval x=v at r1
  cases r1 with
  |ep _ _ _ _ _ hdm=>exact⟨_,by simp[execOp,ho,hv],fun d _=>.ep _ _ _ _ _ hdm⟩
 ·rename_i f a1 b1 hx
  refine ret_sound hd hk fun e' h' he g w a s=>?_;obtain⟨_,r1⟩:=s.evo he m1 hx;generalize hv:a.eval x=v at r1
  cases r1 with
  |fn _ _ fs cs _ _ h1 h2 hf hc=>exact⟨_,by simp[execOp,ho,hv],fun d _=>.fn _ _ fs cs _ _ h1 h2 hf hc⟩
 ·exact hk.elim
theorem fieldOf_spec (hty:TyOK P ty) {t f:Nat} {fd:Field} (hf:fieldOf ty t f=some fd):∃fs,P.underlying t=some (.struct fs)∧fs[f]?=some fd:=by
 unfold fieldOf at hf;split at hf
 ·rename_i i hi
  split at hf
  ·rename_i fs hfs
   refine⟨fs,?_,by simpa using hf⟩;rw[←hfs];exact(hty t i hi).und
  ·cases hf
 ·cases hf
theorem run_sizeOf_ty (hty:TyOK P ty) {t:Nat} {i:TI} (hi:ty t=some i) (w:World):(sizeOf t).run P w=.ok i.size w:=by
 obtain⟨inf,z,h1,h2,_⟩:=(hty t i hi).inf;simp[sizeOf,typeInfo,h1,h2]
theorem run_isAgg_ty (hty:TyOK P ty) {t:Nat} {i:TI} (hi:ty t=some i) (w:World):(isAgg t).run P w=.ok (isAggD i.desc) w:=by
 unfold isAgg;simp only[Sem.run_bind,run_underlying (hty t i hi).und,Result.andThen_ok];cases i.desc<;>rfl
theorem run_fieldAt (hty:TyOK P ty) {t f:Nat} {fd:Field} {j:TI} (hf:fieldOf ty t f=some fd) (hj:ty fd.type=some j) (hz:Nat.beq j.size 0=false) {a:Addr} (hs:a.spot=none) (w:World):
 (Instr.fieldAt t (.pointer (some a)) f).run P w=.ok (.pointer (some ⟨a.block,a.off+fd.offset,none⟩)) w:=by
 obtain⟨fs,h1,h2⟩:=fieldOf_spec hty hf;have hne:j.size≠0:=fun e=>by rw[e]at hz;cases hz
 simp only[Instr.fieldAt,Sem.run_bind,run_underlying h1,Result.andThen_ok,h2,Instr.sureAddr,Sem.run_pure,fieldPlace,run_sizeOf_ty hty hj,if_neg hne,Addr.add_of_spot hs]
theorem aFieldAddr_sound (hty:TyOK P ty) (hd:∀d,o.dst=some d→d<n) {t f:Nat} {x:Operand} (ho:o.op=.fieldAddr t x f)
 (hk:match fieldOf ty t f with
   |some fd=>match ty fd.type with
    |some j=>match Nat.beq j.size 0,ev e x with
     |false,.ptr l off=>ret o (.ptr l (off+fd.offset)) K
     |false,.vp cs=>ret o (.vp (cs.drop fd.offset)) K
     |false,.ep l sz m c=>ret o (.ep l sz m (c+fd.offset)) K
     |_,_=>AStuck "fieldAddr"
    |none=>AStuck "fieldAddr"
   |none=>AStuck "fieldAddr"):∃f,K f∧OpOK P n o e h f:=by
 have m1:x∈o.op.operands:=by simp[ho,Op.operands]
 split at hk
 ·rename_i fd hfd
  split at hk
  ·rename_i j hj
   split at hk
   ·rename_i l off hz hx
    refine ret_sound hd hk fun e' h' he g w a s=>?_;obtain⟨_,r1⟩:=s.evo he m1 hx;generalize hv:a.eval x=v at r1
    cases r1 with
    |ptr _ _ _ hdm=>
     refine⟨.pointer (some ⟨g.ρ l,off+fd.offset,none⟩),?_,fun d _=>.ptr _ _ _ hdm⟩;simp only[execOp,ho,hv,Sem.run_bind,run_fieldAt hty hfd hj hz (a:=⟨g.ρ l,off,none⟩) rfl,Result.andThen_ok,Sem.run_pure]
   ·rename_i cs hz hx
    refine ret_sound hd hk fun e' h' he g w a s=>?_;obtain⟨_,r1⟩:=s.evo he m1 hx;generalize hv:a.eval x=v at r1
    cases r1 with
    |vp _ ad _ f hs hm hx=>
     refine⟨.pointer (some ⟨ad.block,ad.off+fd.offset,none⟩),?_,fun d _=>.vp _ _ _ (fun i=>f (fd.offset+i)) rfl (fun i y hy=>?_) (fun i y hy=>?_)⟩
     ·simp only[execOp,ho,hv,Sem.run_bind,run_fieldAt hty hfd hj hz hs,Result.andThen_ok,Sem.run_pure]
     ·rw[List.getElem?_drop]at hy
      have:=hm (fd.offset+i) y hy;rw[Nat.add_assoc];exact this
     ·rw[List.getElem?_drop]at hy
      exact hx (fd.offset+i) y hy
   ·rename_i l sz m c hz hx
    refine ret_sound hd hk fun e' h' he g w a s=>?_;obtain⟨_,r1⟩:=s.evo he m1 hx;generalize hv:a.eval x=v at r1
    cases r1 with
    |ep _ _ _ _ _ hdm=>
     refine⟨.pointer (some ⟨g.ρ l,m*sz+(c+fd.offset),none⟩),?_,fun d _=>.ep _ _ _ _ _ hdm⟩;simp only[execOp,ho,hv,Sem.run_bind,run_fieldAt hty hfd hj hz (a:=⟨g.ρ l,m*sz+c,none⟩) rfl,Result.andThen_ok,Sem.run_pure,Nat.add_assoc]
   ·exact hk.elim
  ·exact hk.elim
 ·exact hk.elim
theorem aField_sound (hty:TyOK P ty) (hd:∀d,o.dst=some d→d<n) {t f:Nat} {x:Operand} (ho:o.op=.field t x f)
 (hk:match fieldOf ty t f with
 |some fd=>match ty fd.type with
  |some j=>match (ev e x).aggCells? with
   |some cs=>match isAggD j.desc with
    |true=>match getAt cs fd.offset j.size with
     |some l=>ret o (mkAgg l j.csz) K
     |none=>AStuck "field"
    |false=>match cs[fd.offset]? with
     |some v=>ret o v.copy K
     |none=>AStuck "field"
   |none=>AStuck "field"
  |none=>AStuck "field"
 |none=>AStuck "field"):∃f,K f∧OpOK P n o e h f:=by
 have m1:x∈o.op.operands:=by simp[ho,Op.operands]
 split at hk
 ·rename_i fd hfd
  obtain⟨fs,hu,hfs⟩:=fieldOf_spec hty hfd;split at hk
  ·rename_i j hj
   split at hk
   ·rename_i cs hcs
    have hval:∀{e':Env} {h':Heap} {g:Gh} {w:World} {a:Act},(∀t∈slotsOf o,eget e' t=eget e t)→Sim g w n a e' h'→∃vs:List Value,a.eval x=.agg vs.toArray∧vs.length=cs.length∧(∀u∈vs,u.oneCell'=true)∧
     ∀(j:Nat) (u:Value) (c:AV),vs[j]?=some u→cs[j]?=some c→VRel g w (domOf h') none u c:=by
     intro e' h' g w a he s;obtain⟨_,r1⟩:=s.evo he m1 rfl
     have hagg:(∃xs,ev e x=.p (.agg xs))∨∃cs,ev e x=.agg cs:=by
      unfold AV.aggCells? at hcs;split at hcs
      ·rename_i q;exact .inl ⟨_,q⟩
      ·rename_i q;exact .inr ⟨_,q⟩
      ·cases hcs
     rcases hagg with⟨xs,hx⟩|⟨cs',hx⟩
     ·rw[hx]at r1 hcs
      generalize hv:a.eval x=v at r1
      cases r1 with
      |p _ _ _ hp=>
       cases hp with
       |agg vs _ hl h1 hx=>
        simp only[AV.aggCells?,Option.some.injEq]at hcs;subst hcs;refine⟨vs,rfl,by simp[pCells_length,hl],h1,fun j u c hu hc=>?_⟩;rw[pCells_get]at hc
        cases hxs:xs[j]? with
        |none=>simp[hxs]at hc
        |some y=>
         simp only[hxs,Option.map_some,Option.some.injEq]at hc;subst hc;exact .p _ _ _ (hx j u y hu hxs)
     ·rw[hx]at r1 hcs
      generalize hv:a.eval x=v at r1
      cases r1 with
      |agg _ vs _ hl h1 hx=>
       simp only[AV.aggCells?,Option.some.injEq]at hcs;subst hcs;exact⟨vs,rfl,hl,h1,hx⟩
    split at hk
    ·rename_i hag
     split at hk
     ·rename_i l hl
      obtain⟨hl1,hl2⟩:=getAt_spec _ _ _ _ hl;refine ret_sound hd hk fun e' h' he g w a s=>?_;obtain⟨vs,hv,hlen,h1,hx⟩:=hval he s
      have hsz:fd.offset+j.size≤vs.length∨j.size=0:=by
       rcases Nat.eq_zero_or_pos j.size with h0|h0
       ·exact .inr h0
       ·left
        have:=hl2 (j.size-1) (by omega)
        have hlt:fd.offset+(j.size-1)<cs.length:=by
         rcases Nat.lt_or_ge (fd.offset+(j.size-1)) cs.length with h2|h2
         ·exact h2
         ·rw[List.getElem?_eq_none h2,List.getElem?_eq_none_iff]at this;omega
        omega
      refine⟨.agg ((vs.drop fd.offset).take j.size).toArray,?_,fun d _=>mkAgg_rel _ _ _ ?_ (fun v hv=>h1 v (List.mem_of_mem_drop (List.mem_of_mem_take hv))) fun i v c hvi hc=>?_⟩
      ·have:(vs.toArray.extract fd.offset (fd.offset+j.size))=((vs.drop fd.offset).take j.size).toArray:=by
        apply Array.ext'
        simp[List.extract_eq_take_drop]
       simp only[execOp,ho,hv,Instr.field,Sem.run_bind,run_underlying hu,Result.andThen_ok,hfs,asAgg,Sem.run_pure,part,run_isAgg_ty hty hj,hag,if_true,run_sizeOf_ty hty hj,this]
      ·simp[hl1];omega
      ·have hi:i<j.size:=by
        rcases Nat.lt_or_ge i l.length with h2|h2
        ·omega
        ·rw[List.getElem?_eq_none h2]at hc;cases hc
       rw[List.getElem?_take,if_pos hi,List.getElem?_drop]at hvi;rw[hl2 i hi]at hc;exact⟨none,hx _ _ _ hvi hc⟩
     ·exact hk.elim
    ·rename_i hag
     split at hk
     ·rename_i c hc
      refine ret_sound hd hk fun e' h' he g w a s=>?_;obtain⟨vs,hv,hlen,h1,hx⟩:=hval he s;have hlt:fd.offset<vs.length:=by have:=(List.getElem?_eq_some_iff.1 hc).1;omega
      refine⟨vs[fd.offset],?_,fun d _=>(hx fd.offset _ c (by simp[hlt]) hc).copy⟩;simp[execOp,ho,hv,Instr.field,run_underlying hu,hfs,asAgg,part,run_isAgg_ty hty hj,hag,hlt]
     ·exact hk.elim
   ·exact hk.elim
  ·exact hk.elim
 ·exact hk.elim
theorem aExtract_sound (hd:∀d,o.dst=some d→d<n) {x:Operand} {m:Nat} (ho:o.op=.extract x m)
 (hk:match ev e x with
 |.tup vs=>match vs[m]? with
  |some v=>ret o v.copy K
  |none=>AStuck "extract"
 |_=>AStuck "extract"):∃f,K f∧OpOK P n o e h f:=by
 have m1:x∈o.op.operands:=by simp[ho,Op.operands]
 split at hk
 ·rename_i cs hx
  split at hk
  ·rename_i c hc
   refine ret_sound hd hk fun e' h' he g w a s=>?_;obtain⟨_,r1⟩:=s.evo he m1 hx;generalize hv:a.eval x=v at r1
   cases r1 with
   |tup _ vs _ hl hx=>
    have hlt:m<vs.length:=by have:=(List.getElem?_eq_some_iff.1 hc).1;omega
    refine⟨vs[m],?_,fun d _=>(hx m _ c (by simp[hlt]) hc).copy⟩;simp[execOp,ho,hv,Instr.extract,hlt]
  ·exact hk.elim
 ·exact hk.elim
end
end Go.AM
end
section
namespace Go.AM
section
variable {P:Program} {ty:Nat→Option TI} {n:Nat} {o:Oper} {e:Env} {h:Heap} {K:AK}
theorem run_builtin_call {x:List Operand} {b:Builtin} {ts:Array TypeId} (ho:o.op=.call { callee:=.builtin b,args:=⟨x⟩,argTypes:=ts }) (a:Act) (w:World):
 ∃cs,(execOp a.eval o).run P w=(builtin b ts o.type cs (x.map a.eval).toArray).run P w:=by
 cases o;simp only at ho;subst ho;exact⟨_,congrArg (fun z=>Sem.run P (builtin b ts _ _ z) w) (List.map_toArray ..)⟩
theorem run_len {t:TypeId} {d:TypeDesc} {v:Value} {k:Int} (hu:P.underlying t=some d) (h:(d=.string∧∃s,v=.string s∧k=s.size)∨((∃el,d=.slice el)∧∃a n c,v=.slice a n c∧k=n)) {ts:List TypeId} (w:World):
 (Builtin.len_ (t::ts).toArray 0 #[v]).run P w=.ok (.int .i64 k) w:=by
 rcases h with⟨rfl,s,rfl,rfl⟩|⟨⟨el,rfl⟩,a,n,c,rfl,rfl⟩<;>simp[Builtin.len_,run_underlying hu,goInt]
theorem VRel.slen {g:Gh} {w:World} {dom:Nat→Prop} {ow:Option Owner} {v:Value} {sz:Nat} {xs:List PV} (r:VRel g w dom ow v (.p (.sl sz xs))):∃a c,v=.slice a xs.length c:=by
 cases r with
 |p _ _ _ hp=>cases hp with
  |nil=>exact⟨none,0,rfl⟩
  |sl a cap _ _ f=>exact⟨some a,cap,rfl⟩
theorem aLen_sound (hty:TyOK P ty) (hd:∀d,o.dst=some d→d<n) {x:Operand} {t:Nat} {ts:List TypeId} (ho:o.op=.call { callee:=.builtin .len,args:=⟨[x]⟩,argTypes:=⟨t::ts⟩ })
 (hk:aLen ty o t (ev e x) h K):∃f,K f∧OpOK P n o e h f:=by
 have m1:x∈o.op.operands:=by simp[ho,Op.operands,Call.operands]
 have hrun:∀(a:Act) (w:World) (k:Int),(∀u,(Builtin.len_ (t::ts).toArray u #[a.eval x]).run P w=.ok (.int .i64 k) w)→(execOp a.eval o).run P w=.ok (.value (.int .i64 k)) w:=by
  intro a w k hl;obtain⟨cs,hcs⟩:=run_builtin_call (P:=P) ho a w;rw[hcs];simp only[builtin,List.map_cons,List.map_nil,Sem.run_bind];rw[show(⟨t::ts⟩:Array TypeId)=(t::ts).toArray from rfl,hl];rfl
 have hl:∀{d:TypeDesc} {v:Value} {k:Int},P.underlying t=some d→((d=.string∧∃s,v=.string s∧k=(s.size:Int))∨((∃el,d=.slice el)∧∃(a:Option Addr) (n c:Nat),v=.slice a n c∧k=(n:Int)))→∀u w,(Builtin.len_ (t::ts).toArray u #[v]).run P w=.ok (.int .i64 k) w:=by
  intro d v k hu hh u w;exact run_len hu hh w
 unfold aLen at hk;split at hk
 ·rename_i i hi
  have hu:=(hty t i hi).und;split at hk
  ·rename_i el hde
   rw[hde]at hu;split at hk
   ·rename_i sz xs hx
    refine ret_sound hd hk fun e' h' he g w a s=>?_;obtain⟨_,r1⟩:=s.evo he m1 hx;obtain⟨ad,c,hv⟩:=r1.slen;exact⟨_,hrun a w _ (fun u=>hl hu (.inr ⟨⟨el,rfl⟩,ad,_,c,hv,rfl⟩) u w),fun d _=>.p _ _ _ (.i _ _)⟩
   ·rename_i sz xs hx
    refine ret_sound hd hk fun e' h' he g w a s=>?_;obtain⟨_,r1⟩:=s.evo he m1 hx;obtain⟨ad,c,hv⟩:=(r1.copy (ow':=none)).slen;exact⟨_,hrun a w _ (fun u=>hl hu (.inr ⟨⟨el,rfl⟩,ad,_,c,hv,rfl⟩) u w),fun d _=>.p _ _ _ (.i _ _)⟩
   ·rename_i hx
    refine ret_sound hd hk fun e' h' he g w a s=>?_;obtain⟨_,r1⟩:=s.evo he m1 hx;generalize hv:a.eval x=v at r1
    cases r1 with
    |nilS=>exact⟨_,hrun a w 0 (fun u=>hl hu (.inr ⟨⟨el,rfl⟩,none,0,0,hv,rfl⟩) u w),fun d _=>.p _ _ _ (.i _ _)⟩
   ·rename_i sz hx
    refine ret_sound hd hk fun e' h' he g w a s=>?_;obtain⟨_,r1⟩:=s.evo he m1 hx;generalize hv:a.eval x=v at r1
    cases r1 with
    |es _ ad cap _ _=>exact⟨_,hrun a w 0 (fun u=>hl hu (.inr ⟨⟨el,rfl⟩,some ad,0,cap,hv,rfl⟩) u w),fun d _=>.p _ _ _ (.i _ _)⟩
   ·rename_i l hx
    split at hk
    ·rename_i xs hh
     refine retR_sound hd hk fun e' h' he hl' g w a s=>?_;obtain⟨_,r1⟩:=s.evo he m1 hx;generalize hv:a.eval x=v at r1
     cases r1 with
     |ar _ _ m hdm hn=>
      obtain⟨cs,E,hb,rfl⟩:=hn;rw[hh]at hl'
      cases s.heap.obj l _ hl' with
      |arr _ vs E' hb' hlen=>
       rw[hb]at hb';cases hb';exact⟨_,hrun a w _ (fun u=>hl hu (.inr ⟨⟨el,rfl⟩,_,_,_,hv,rfl⟩) u w),fun d _=>by rw[hlen];exact .p _ _ _ (.i _ _)⟩
    ·rename_i xs hh
     refine retR_sound hd hk fun e' h' he hl' g w a s=>?_;obtain⟨_,r1⟩:=s.evo he m1 hx;generalize hv:a.eval x=v at r1
     cases r1 with
     |ar _ _ m hdm hn=>
      obtain⟨cs,E,hb,rfl⟩:=hn;rw[hh]at hl'
      cases s.heap.obj l _ hl' with
      |cells _ vs E' hb' hlen=>
       rw[hb]at hb';cases hb';exact⟨_,hrun a w _ (fun u=>hl hu (.inr ⟨⟨el,rfl⟩,_,_,_,hv,rfl⟩) u w),fun d _=>by rw[hlen];exact .p _ _ _ (.i _ _)⟩
    ·exact hk.elim
   ·rename_i l sz m hx
    refine ret_sound hd hk fun e' h' he g w a s=>?_;obtain⟨_,r1⟩:=s.evo he m1 hx;generalize hv:a.eval x=v at r1
    cases r1 with
    |al0=>exact⟨_,hrun a w 0 (fun u=>hl hu (.inr ⟨⟨el,rfl⟩,none,0,0,hv,rfl⟩) u w),fun d _=>.p _ _ _ (.i _ _)⟩
    |al _ _ _ _ _ cap=>exact⟨_,hrun a w _ (fun u=>hl hu (.inr ⟨⟨el,rfl⟩,_,_,cap,hv,rfl⟩) u w),fun d _=>.p _ _ _ (.i _ _)⟩
   ·exact hk.elim
  ·rename_i kt et hde
   rw[hde]at hu;split at hk
   ·rename_i l hx
    split at hk
    ·rename_i kd xs hh
     refine retR_sound hd hk fun e' h' he hl' g w a s=>?_;obtain⟨_,r1⟩:=s.evo he m1 hx;generalize hv:a.eval x=v at r1
     cases r1 with
     |mp _ _ hdm=>
      rw[hh]at hl'
      cases s.heap.obj l _ hl' with
      |map _ _ es clock hb hxx hc=>
       refine⟨_,hrun a w xs.length (fun u=>?_),fun d _=>.p _ _ _ (.i _ _)⟩;have e1:es.size=xs.length:=by have:=hxx.1;simpa using this
       rw[hv];simp[Builtin.len_,run_underlying hu,MapKept.run_getObj_map hb,e1,goInt]
    ·exact hk.elim
   ·rename_i hx
    refine ret_sound hd hk fun e' h' he g w a s=>?_;obtain⟨_,r1⟩:=s.evo he m1 hx;generalize hv:a.eval x=v at r1
    cases r1 with
    |c _ _ h1=>
     refine⟨_,hrun a w 0 (fun u=>?_),fun d _=>.p _ _ _ (.i _ _)⟩;rw[hv];simp[Builtin.len_,run_underlying hu,goInt]
   ·exact hk.elim
  ·rename_i hde
   rw[hde]at hu;split at hk
   ·rename_i y hx
    refine ret_sound hd hk fun e' h' he g w a s=>?_;obtain⟨_,r1⟩:=s.evo he m1 hx;exact⟨_,hrun a w _ (fun u=>hl hu (.inl ⟨rfl,y,r1.str,rfl⟩) u w),fun d _=>.p _ _ _ (.i _ _)⟩
   ·exact hk.elim
  ·exact hk.elim
 ·exact hk.elim
theorem imm_cell {g:Gh} {w:World} {b i:Nat} {v:Value} (h:imm g w b i=some v):w.cell? ⟨b,i,none⟩=some v:=by
 simp only[imm_eq]at h;split at h
 ·exact h
 ·cases h
theorem aIndexAddr_sound (hty:TyOK P ty) (hd:∀d,o.dst=some d→d<n) {x ix:Operand} {t:Nat} (ho:o.op=.indexAddr t x ix) (hk:aIndexAddr ty o t (ev e x).copy (ev e ix) h K):∃f,K f∧OpOK P n o e h f:=by
 have m1:x∈o.op.operands:=by simp[ho,Op.operands]
 have m2:ix∈o.op.operands:=by simp[ho,Op.operands]
 unfold aIndexAddr at hk;split at hk
 ·rename_i i hi
  split at hk
  ·rename_i el hde
   have hu:=(hty t i hi).und;rw[hde]at hu;split at hk
   ·rename_i j hj
    split at hk
    ·rename_i sz xs k m hx hix
     split at hk
     ·rename_i hz
      obtain rfl:sz=j.size:=Nat.eq_of_beq_eq_true hz;obtain⟨y,h0,hy,hk⟩:=hk;refine ret_sound hd hk fun e' h' he g w a s=>?_;obtain⟨_,r1⟩:=s.evo he m1 rfl;have r1:=r1.copy (ow':=none);rw[hx]at r1;obtain⟨_,r2⟩:=s.evo he m2 hix;have hlt:m.toNat<xs.length:=(List.getElem?_eq_some_iff.1 hy).1;generalize hv:a.eval x=v at r1
      cases r1 with
      |p _ _ _ hp=>
       cases hp with
       |nil=>simp at hy
       |sl ad cap _ _ f hs hc hz2 hm hxx=>
        refine⟨.pointer (some ⟨ad.block,ad.off+m.toNat*j.size,none⟩),?_,fun d _=>.vp _ _ _ (fun q=>f m.toNat q) rfl (fun q z hq=>hm m.toNat y hy q z hq) (fun q z hq=>hxx m.toNat y hy q z hq)⟩;have hlt':m<(xs.length:Int):=by omega
        simp only[execOp,ho,hv,r2.int,Instr.indexAt,asIntOf,Sem.run_bind,Sem.run_pure,Result.andThen_ok,run_underlying hu,h0,hlt',and_self,if_true,run_sizeOf_ty hty hj,Addr.add_of_spot (hs (by omega))]
     ·exact hk.elim
    ·rename_i l k m hx hix
     split at hk
     ·rename_i xs hh
      split at hk
      ·rename_i hz
       have hz:j.size=1:=Nat.eq_of_beq_eq_true hz;obtain⟨⟨h0,hlt⟩,hk⟩:=hk;refine retR_sound hd hk fun e' h' he hl' g w a s=>?_;obtain⟨_,r1⟩:=s.evo he m1 rfl;have r1:=r1.copy (ow':=none);rw[hx]at r1;obtain⟨_,r2⟩:=s.evo he m2 hix;generalize hv:a.eval x=v at r1
       cases r1 with
       |ar _ _ q hdm hn=>
        obtain⟨cs,E,hb,rfl⟩:=hn;rw[hh]at hl'
        cases s.heap.obj l _ hl' with
        |arr _ vs E' hb' hlen=>
         rw[hb]at hb';cases hb';refine⟨.pointer (some ⟨g.ρ l,m.toNat,none⟩),?_,fun d _=>.ap _ _ _ hdm⟩;have hlt':m<(cs.size:Int):=by omega
         simp only[execOp,ho,hv,r2.int,Instr.indexAt,asIntOf,Sem.run_bind,Sem.run_pure,Result.andThen_ok,run_underlying hu,h0,hlt',and_self,if_true,run_sizeOf_ty hty hj,hz,Nat.mul_one,Addr.add_plain,Nat.zero_add]
      ·exact hk.elim
     ·rename_i xs hh
      split at hk
      ·rename_i hz
       have hz:j.size=1:=Nat.eq_of_beq_eq_true hz;obtain⟨⟨h0,hlt⟩,hk⟩:=hk;refine retR_sound hd hk fun e' h' he hl' g w a s=>?_;obtain⟨_,r1⟩:=s.evo he m1 rfl;have r1:=r1.copy (ow':=none);rw[hx]at r1;obtain⟨_,r2⟩:=s.evo he m2 hix;generalize hv:a.eval x=v at r1
       cases r1 with
       |ar _ _ q hdm hn=>
        obtain⟨cs,E,hb,rfl⟩:=hn;rw[hh]at hl'
        cases s.heap.obj l _ hl' with
        |cells _ vs E' hb' hlen=>
         rw[hb]at hb';cases hb';refine⟨.pointer (some ⟨g.ρ l,m.toNat,none⟩),?_,fun d _=>.ptr _ _ _ hdm⟩;have hlt':m<(cs.size:Int):=by omega
         simp only[execOp,ho,hv,r2.int,Instr.indexAt,asIntOf,Sem.run_bind,Sem.run_pure,Result.andThen_ok,run_underlying hu,h0,hlt',and_self,if_true,run_sizeOf_ty hty hj,hz,Nat.mul_one,Addr.add_plain,Nat.zero_add]
      ·exact hk.elim
     ·exact hk.elim
    ·rename_i l sz q k m hx hix
     split at hk
     ·rename_i hz
      have hz:sz=j.size:=Nat.eq_of_beq_eq_true hz;obtain⟨⟨h0,hlt⟩,hk⟩:=hk;refine ret_sound hd hk fun e' h' he g w a s=>?_;obtain⟨_,r1⟩:=s.evo he m1 rfl;have r1:=r1.copy (ow':=none);rw[hx]at r1;obtain⟨_,r2⟩:=s.evo he m2 hix;generalize hv:a.eval x=v at r1
      cases r1 with
      |al0=>omega
      |al _ _ _ _ _ cap hdm h0' hc hn=>
       refine⟨.pointer (some ⟨g.ρ l,m.toNat*sz+0,none⟩),?_,fun d _=>.ep _ _ _ _ _ hdm⟩;have hlt':m<(q:Int):=by omega
       simp only[execOp,ho,hv,r2.int,Instr.indexAt,asIntOf,Sem.run_bind,Sem.run_pure,Result.andThen_ok,run_underlying hu,h0,hlt',and_self,if_true,run_sizeOf_ty hty hj,hz,Addr.add_plain,Nat.zero_add,Nat.add_zero]
     ·exact hk.elim
    ·exact hk.elim
   ·exact hk.elim
  ·rename_i len el hde
   have hu:=(hty t i hi).und;rw[hde]at hu;split at hk
   ·rename_i j hj
    split at hk
    ·rename_i cs k m hx hix
     obtain⟨⟨h0,hlt⟩,hk⟩:=hk;refine ret_sound hd hk fun e' h' he g w a s=>?_;obtain⟨_,r1⟩:=s.evo he m1 rfl;have r1:=r1.copy (ow':=none);rw[hx]at r1;obtain⟨_,r2⟩:=s.evo he m2 hix;generalize hv:a.eval x=v at r1
     cases r1 with
     |vp _ ad _ f hs hm hxx=>
      refine⟨.pointer (some ⟨ad.block,ad.off+m.toNat*j.size,none⟩),?_,fun d _=>.vp _ _ _ (fun q=>f (m.toNat*j.size+q)) rfl (fun q z hq=>?_) (fun q z hq=>?_)⟩
      ·simp only[execOp,ho,hv,r2.int,Instr.indexAt,Instr.sureAddr,asIntOf,Sem.run_bind,Sem.run_pure,Result.andThen_ok,run_underlying hu,h0,hlt,and_self,if_true,run_sizeOf_ty hty hj,Addr.add_of_spot hs]
      ·have:=hm (m.toNat*j.size+q) z (by rw[List.getElem?_drop]at hq;exact hq)
       rw[show ad.off+(m.toNat*j.size+q)=ad.off+m.toNat*j.size+q by omega]at this;exact this
      ·exact hxx (m.toNat*j.size+q) z (by rw[List.getElem?_drop]at hq;exact hq)
    ·rename_i l off k m hx hix
     obtain⟨⟨h0,hlt⟩,hk⟩:=hk;refine ret_sound hd hk fun e' h' he g w a s=>?_;obtain⟨_,r1⟩:=s.evo he m1 rfl;have r1:=r1.copy (ow':=none);rw[hx]at r1;obtain⟨_,r2⟩:=s.evo he m2 hix;generalize hv:a.eval x=v at r1
     cases r1 with
     |ptr _ _ _ hdm=>
      refine⟨.pointer (some ⟨g.ρ l,off+m.toNat*j.size,none⟩),?_,fun d _=>.ptr _ _ _ hdm⟩;simp only[execOp,ho,hv,r2.int,Instr.indexAt,Instr.sureAddr,asIntOf,Sem.run_bind,Sem.run_pure,Result.andThen_ok,run_underlying hu,h0,hlt,and_self,if_true,run_sizeOf_ty hty hj,Addr.add_plain]
    ·exact hk.elim
   ·exact hk.elim
  ·exact hk.elim
 ·exact hk.elim
end
end Go.AM
end
section
namespace Go.AM
section
variable {P:Program} {ty:Nat→Option TI} {n:Nat} {o:Oper} {e:Env} {h:Heap} {K:AK}
theorem run_loadAt (hty:TyOK P ty) {t:Nat} {i:TI} (hi:ty t=some i) {a:Addr} (hs:a.spot=none) {w:World} (vs:List Value) (hl:vs.length=i.size)
 (hc:∀(j:Nat) (v:Value),vs[j]?=some v→w.cell? ⟨a.block,a.off+j,none⟩=some v):
 (isAggD i.desc=true→(Instr.loadAt t (.pointer (some a))).run P w=.ok (.agg vs.toArray) w):=by
 intro hag;have:=run_loadCells_list (P:=P) w a vs (fun j v hj=>by rw[Addr.add_of_spot hs];exact hc j v hj);rw[hl]at this;simp only[Instr.loadAt,Instr.sureAddr,Sem.run_bind,Sem.run_pure,Result.andThen_ok,loadVar,run_isAgg_ty hty hi,hag,if_true,run_sizeOf_ty hty hi,this]
theorem run_loadAt1 (hty:TyOK P ty) {t:Nat} {i:TI} (hi:ty t=some i) {a:Addr} (hs:a.spot=none) {w:World} {v:Value} (hag:isAggD i.desc=false)
 (hc:w.cell? ⟨a.block,a.off,none⟩=some v):(Instr.loadAt t (.pointer (some a))).run P w=.ok v w:=by
 have ha:a=⟨a.block,a.off,none⟩:=by cases a;simp only at hs;subst hs;rfl
 rw[ha];simp[Instr.loadAt,Instr.sureAddr,loadVar,run_isAgg_ty hty hi,hag,hc]
theorem cell?_of {w:World} {b:Nat} {vs:Array Value} {E:TypeId} {fr:Nat×Nat} (hb:w.heap[b]?=some (.cells vs E fr)) (i:Nat):w.cell? ⟨b,i,none⟩=vs[i]?:=by
 simp[World.cell?,hb]
theorem VRel.setRow {g:Gh} {w:World} {dom dom':Nat→Prop} {l:Nat} {old vs:Array Value} {E:TypeId} (hown:g.own (g.ρ l)=some (.obj l)) (hpre:g.pre (g.ρ l)=0)
 (hb:w.heap[g.ρ l]?=some (.cells old E (0,0))) (hs:vs.size=old.size) (hd:∀k,dom k→dom' k) {ow:Option Owner} (hne:ow≠some (.obj l)) {v:Value} {x:AV} (r:VRel g w dom ow v x):
 VRel g (w.setRow (g.ρ l) vs) dom' ow v x:=by
 refine VRel.keep (g:=g) (g':=g) (w:=w) (w':=w.setRow (g.ρ l) vs) (fun b i u hu=>?_) (fun k hk=>⟨hd k hk,rfl⟩) (fun k cs F hk hc=>?_) (fun o1 b e1 h1=>?_) r
 ·by_cases hbl:b=g.ρ l
  ·subst hbl;simp only[imm_eq]at hu;rw[hpre]at hu;simp at hu
  ·simp only[imm_eq]at hu ⊢;rw[cell_setRow_other _ _ _ _ hbl];exact hu
 ·by_cases hkl:g.ρ k=g.ρ l
  ·rw[hkl]at hc ⊢
   rw[hb]at hc;cases hc;exact⟨vs,E,setRow_heap _ _ _ _ _ _ hb,hs⟩
  ·exact⟨cs,F,by rw[setRow_other _ _ _ _ hkl];exact hc,rfl⟩
 ·have hbl:b≠g.ρ l:=fun eq=>by subst eq;rw[hown]at h1;cases h1;exact hne e1
  exact⟨h1,rfl,setRow_other _ _ _ _ hbl⟩
theorem imm_setRow {g:Gh} {w:World} {l:Nat} {vs:Array Value} (hpre:g.pre (g.ρ l)=0) {b k:Nat} {v:Value} (h:imm g w b k=some v):imm g (w.setRow (g.ρ l) vs) b k=some v:=by
 have hb:b≠g.ρ l:=fun e=>by subst e;simp only[imm_eq]at h;rw[hpre,if_neg (Nat.not_lt_zero _)]at h;cases h
 simp only[imm_eq]at h ⊢;simp only[World.cell?,setRow_other _ _ _ _ hb]at h ⊢;exact h
theorem PRel.setRow {g:Gh} {w:World} {l:Nat} {vs:Array Value} (hpre:g.pre (g.ρ l)=0) {v:Value} {x:PV} (r:PRel (imm g w) v x):PRel (imm g (w.setRow (g.ρ l) vs)) v x:=by
 refine r.mono fun b i u hu=>?_
 by_cases hbl:b=g.ρ l
 ·subst hbl;simp only[imm_eq]at hu;rw[hpre]at hu;simp at hu
 ·simp only[imm_eq]at hu ⊢;rw[cell_setRow_other _ _ _ _ hbl];exact hu
theorem frozen_setRow {w:World} {b:Nat} {old vs:Array Value} {E:TypeId} {fr:Nat×Nat} (hb:w.heap[b]?=some (.cells old E fr)) (a:Addr):(w.setRow b vs).frozen? a=w.frozen? a:=by
 by_cases h:a.block=b
 ·subst h;simp[World.frozen?,hb,setRow_heap _ _ _ vs _ _ hb]
 ·simp[World.frozen?,setRow_other _ _ _ _ h]
theorem Ext.setRow {g:Gh} {w:World} {l:Nat} {old vs:Array Value} {E:TypeId} (hown:g.own (g.ρ l)=some (.obj l)) (hpre:g.pre (g.ρ l)=0) (hb:w.heap[g.ρ l]?=some (.cells old E (0,0))) (hs:vs.size=old.size):
 Ext g w g (w.setRow (g.ρ l) vs):=by
 refine⟨by rw[setRow_size];exact Nat.le_refl _,rfl,rfl,fun b i u hu=>?_,fun b hbb ho=>⟨?_,rfl,ho⟩,SgLe.of rfl rfl,fun a _=>frozen_setRow hb a,fun _ _=>rfl,fun b cs E' hb'=>?_⟩
 ·by_cases hbl:b=g.ρ l
  ·subst hbl;simp only[imm_eq]at hu;rw[hpre]at hu;simp at hu
  ·simp only[imm_eq]at hu ⊢;rw[cell_setRow_other _ _ _ _ hbl];exact hu
 ·have hbl:b≠g.ρ l:=fun eq=>by subst eq;rw[hown]at ho;cases ho
  exact setRow_other _ _ _ _ hbl
 ·by_cases hbl:b=g.ρ l
  ·subst hbl;rw[hb]at hb';cases hb';exact⟨vs,E,setRow_heap _ _ _ _ _ _ hb,hs⟩
  ·exact⟨cs,E',by rw[setRow_other _ _ _ _ hbl];exact hb',rfl⟩
theorem domOf_set {h:Heap} {l:Nat} {x y:AObj} (hl:hget h l=some y) (k:Nat):domOf ((l,x)::h) k↔domOf h k:=by
 unfold domOf
 by_cases e:l=k
 ·subst e;simp[hget_self,hl]
 ·rw[hget_ne e]
theorem Sim.setObj {g:Gh} {w:World} {n:Nat} {a:Act} {e:Env} {h:Heap} (s:Sim g w n a e h) {l:Nat} {y x:AObj} (hl:hget h l=some y) {old vs:Array Value} {E:TypeId}
 (hb:w.heap[g.ρ l]?=some (.cells old E (0,0))) (hs:vs.size=old.size) (hx:ORel g (w.setRow (g.ρ l) vs) (domOf ((l,x)::h)) l x) (hsy:y.solid=true:=by rfl):Sim g (w.setRow (g.ρ l) vs) n a e ((l,x)::h):=by
 have hown:=s.heap.own l y hl hsy;have hpre:=s.heap.pre l y hl hsy;have hdom:∀k,domOf h k→domOf ((l,x)::h) k:=fun k hk=>(domOf_set hl k).2 hk;refine⟨s.defers,s.size,fun i=>(s.env i).setRow hown hpre hb hs hdom (by simp),⟨fun k z hz=>?_,fun k z hz hq=>?_,fun k z hz hq=>?_⟩,fun b o' ho'=>by rw[setRow_size];exact s.bnd b o' ho'⟩
 ·by_cases ek:l=k
  ·subst ek;rw[hget_self]at hz;cases hz;exact hx
  ·rw[hget_ne ek]at hz
   have hkl:z.solid=true→g.ρ k≠g.ρ l:=fun hq eq=>by have:=s.heap.own k z hz hq;rw[eq,hown]at this;cases this;exact ek rfl
   have eo:z.solid=true→(w.setRow (g.ρ l) vs).heap[g.ρ k]?=w.heap[g.ρ k]?:=fun hq=>setRow_other _ _ _ _ (hkl hq)
   cases s.heap.obj k z hz with
   |cells cs vs' E' hb' hl' hx' h1=>exact .cells cs vs' E' ((eo rfl).trans hb') hl' (fun j v c q1 q2=>(hx' j v c q1 q2).setRow hown hpre hb hs hdom (by simp)) h1
   |arr xs vs' E' hb' hl' hx' h1=>exact .arr xs vs' E' ((eo rfl).trans hb') hl' (fun j v c q1 q2=>(hx' j v c q1 q2).setRow hpre) h1
   |map kd xs es clock hb' hx' hc=>exact .map kd xs es clock ((eo rfl).trans hb') ⟨hx'.1,fun j q1 q2 q3 q4=>⟨(hx'.2 j q1 q2 q3 q4).1.setRow hpre,(hx'.2 j q1 q2 q3 q4).2.setRow hpre⟩⟩ hc
   |gr st sz xs hg=>exact .gr st sz xs fun q=>(hg q).mono (fun _ _ _ hv=>imm_setRow hpre hv) (fun _ _ hv=>(eo (gr_solid q)).trans hv)
   |dead=>exact .dead
   |glob gb gvs hgl=>exact ORel.globM hgl (fun h1 _ _=>⟨setRow_other _ _ _ _ (fun e=>by subst e;rw[hown]at h1;cases h1),h1⟩)
   |bld T E2 bs hbl=>exact ORel.bldM hbl rfl (eo rfl) (fun bb hbb=>⟨hbb,setRow_other _ _ _ _ (fun e=>by subst e;rw[hown]at hbb;cases hbb),rfl⟩)
   |store T3 o3 sp3 nx3 z3 M3 hst=>exact .store T3 o3 sp3 nx3 z3 M3 (hst.mono (fun _ _ _ hv=>imm_setRow hpre hv) (fun bb hbb=>⟨hbb,setRow_other _ _ _ _ (fun e=>by subst e;rw[hown]at hbb;cases hbb;exact ek rfl),rfl⟩) hst.sown)
 ·by_cases ek:l=k
  ·subst ek;exact hown
  ·rw[hget_ne ek]at hz;exact s.heap.own k z hz hq
 ·by_cases ek:l=k
  ·subst ek;exact hpre
  ·rw[hget_ne ek]at hz;exact s.heap.pre k z hz hq
theorem run_storeAt (hty:TyOK P ty) {t:Nat} {i:TI} (hi:ty t=some i) {b off:Nat} {w:World} {cur:Array Value} {E:TypeId} (hb:w.heap[b]?=some (.cells cur E (0,0))) {v:Value}
 (hsz:v.cells.toList.length=i.size) (hlen:off+v.cells.toList.length≤cur.size) (h1:∀u∈v.cells.toList,u.oneCell'=true):
 (Instr.storeAt t (.pointer (some ⟨b,off,none⟩)) v).run P w=.ok () (w.setRow b (cur.toList.take off++v.cells.toList++cur.toList.drop (off+v.cells.toList.length)).toArray):=by
 have:=run_storeCells_at (P:=P) b off E v.cells.toList 0 cur w hb (by simpa using hlen) h1;have hne:¬v.cells.size≠i.size:=by simpa using hsz
 simp only[Instr.storeAt,Instr.sureAddr,Sem.run_bind,Sem.run_pure,Result.andThen_ok,storeVar,run_sizeOf_ty hty hi,if_neg hne];simpa using this
theorem splice_get {α:Type} (l ys:List α) (off:Nat) (h:off+ys.length≤l.length) (j:Nat):(l.take off++ys++l.drop (off+ys.length))[j]?=if off≤j∧j<off+ys.length then ys[j-off]? else l[j]?:=by
 have ht:(l.take off).length=off:=by simp;omega
 by_cases h1:j<off
 ·rw[List.append_assoc,List.getElem?_append_left (by omega),if_neg (by omega),List.getElem?_take,if_pos h1]
 ·by_cases h2:j<off+ys.length
  ·rw[if_pos ⟨by omega,h2⟩,List.append_assoc,List.getElem?_append_right (by omega),ht,List.getElem?_append_left (by omega)]
  ·rw[if_neg (by omega),List.getElem?_append_right (by simp;omega),List.getElem?_drop]
   congr 1;simp;omega
theorem splice_length {α:Type} (l ys:List α) (off:Nat) (h:off+ys.length≤l.length):(l.take off++ys++l.drop (off+ys.length)).length=l.length:=by
 simp;omega
end
end Go.AM
end
