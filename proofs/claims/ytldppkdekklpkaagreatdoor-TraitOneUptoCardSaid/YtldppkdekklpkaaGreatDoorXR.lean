/- Contracts, and the law, for every input. No conditions. -/
import Derived.Test.YtldppkdekklpkaaGreatDoorPAS
import Derived.Test.YtldppkdekklpkaaGreatDoorXFe
import Derived.Test.YtldppkdekklpkaaGreatDoorXFf
import Derived.Test.YtldppkdekklpkaaGreatDoorXFg
import Derived.Test.YtldppkdekklpkaaGreatDoorXFd
set_option linter.all false
open Go Go.AM Go.Proofs TK TR
set_option maxRecDepth 100000
namespace PA
set_option maxHeartbeats 2000000 in
theorem read_of (ev:Value) (S:ByteArray) (T:List PV) (pg:LPg) (c2':List AV) (h41:AMem Tryz.prog 33 [.p (.s S)] [] (.tup [.p (.sl 3 T),.p (.i .i64 0),.p (.i .i64 0)]) [])
 (h43:AMem Tryz.prog 35 [.ptr 1000000000 0] [(1000000000,.cells [.p (.sl 3 T),.p (.i .i64 0),.p (.i .i64 S.size)]),(1000000001,.glob 1 [ev])] (.p (elPg pg)) [(1000000001,.glob 1 [ev]),(1000000000,.cells c2')])
 (h44:AMem Tryz.prog 15 [.p (elPg pg)] [] (.p (.i .i64 0)) []):AMem Tryz.prog 13 [.p (.s S)] (hE ev) (vParse (pg,0,0)) (hE ev):=by
 refine⟨⟨⟨_,_,Tryz.func13,rfl,rfl⟩,by simp[hE,globB,hget]⟩,fun g0 w0 vs hH hbn hl hrel=>?_⟩;have s0:=Sim.start (fn:=Tryz.f13) (by show 1≤33;decide) hH hbn hl hrel;refine calls_of_wp_defers Tryz.func13 rfl ?_;refine AWp.andThen (AWp.fin (tyOf_ok Tryz.prog) hmix (K:=fun x e h=>x=.normal∧Atv [2,3,4,0] [2,3,4,1000000000] (ptrs++[.p (.s (S))]) (objs3 ev zPg (.p (.i .i64 0)) (.p (.i .i64 0))) e h) (by kernel_rfl) ?_) s0 (Ext.refl _ _) ?_ ?_
 ·conv=>whnf
  exact⟨rfl,rfl,rfl,rfl,rfl⟩
 rotate_left
 ·rintro x g' w' a' e' h' hx ⟨rfl,_⟩;exact absurd rfl hx
 rintro g w a e h ⟨-,ha⟩ s hE0;replace s:=s.atv ha;clear ha e h s0;refine AWp.andThen (AWp.fin (tyOf_ok Tryz.prog) hmix (K:=fun x e h=>x=.normal∧Atv [2,3,4,0,5] [2,3,4,1000000000] (ptrs++[.p (.s (S)),.p (.sl 3 T)]) (objs3 ev zPg (.p (.i .i64 0)) (.p (.i .i64 0))) e h) (by kernel_rfl) ?_) s hE0 ?_ ?_
 ·conv=>whnf
  refine amc [] 500 h41 ?_;(conv=>whnf);exact⟨rfl,rfl,rfl,rfl,rfl⟩
 rotate_left
 ·rintro x g' w' a' e' h' hx ⟨rfl,_⟩;exact absurd rfl hx
 clear s hE0 g w a;rintro g w a e h ⟨-,ha⟩ s hE0;replace s:=s.atv ha;clear ha e h;refine AWp.andThen (AWp.fin (tyOf_ok Tryz.prog) hmix (K:=fun x e h=>x=.normal∧Atv [2,3,4,0,5] [2,3,4,1000000000] (ptrs++[.p (.s (S)),.p (.sl 3 T)]) (objs3 ev zPg (.p (.i .i64 0)) (.p (.i .i64 0))) e h) (by kernel_rfl) ?_) s hE0 ?_ ?_
 ·conv=>whnf
  exact⟨rfl,rfl,rfl,rfl,rfl⟩
 rotate_left
 ·rintro x g' w' a' e' h' hx ⟨rfl,_⟩;exact absurd rfl hx
 clear s hE0 g w a;rintro g w a e h ⟨-,ha⟩ s hE0;replace s:=s.atv ha;clear ha e h;have p2:a.tmps[2]?.getD undef=.pointer (some ⟨g.ρ 2,0,none⟩):=by have:=s.env 2;rw[←Array.getD_eq_getD_getElem?];generalize a.tmps.getD 2 undef=v at this;cases this;rfl
 have p3:a.tmps[3]?.getD undef=.pointer (some ⟨g.ρ 3,0,none⟩):=by have:=s.env 3;rw[←Array.getD_eq_getD_getElem?];generalize a.tmps.getD 3 undef=v at this;cases this;rfl
 have p4:a.tmps[4]?.getD undef=.pointer (some ⟨g.ρ 4,0,none⟩):=by have:=s.env 4;rw[←Array.getD_eq_getD_getElem?];generalize a.tmps.getD 4 undef=v at this;cases this;rfl
 refine wp_seq (wp_region ?_);have hsz:a.tmps.size=33:=s.size;simp[wpOps,go_sem,hsz,s.defers];refine .inl (.inl ?_);have p2':a.tmps[2]'(by omega)=.pointer (some ⟨g.ρ 2,0,none⟩):=by rw[←p2];simp[hsz]
 have p3':a.tmps[3]'(by omega)=.pointer (some ⟨g.ρ 3,0,none⟩):=by rw[←p3];simp[hsz]
 have p4':a.tmps[4]'(by omega)=.pointer (some ⟨g.ρ 4,0,none⟩):=by rw[←p4];simp[hsz]
 rw[p2',p3',p4'];generalize hfn:Value.func (Fn.func 34) #[] #[Value.pointer (some ⟨g.ρ 2,0,none⟩),Value.pointer (some ⟨g.ρ 3,0,none⟩),Value.pointer (some ⟨g.ρ 4,0,none⟩)]=F;generalize hd:({ target:=Target.fn (Fn.func 34) #[Value.pointer (some ⟨g.ρ 2,0,none⟩),Value.pointer (some ⟨g.ρ 3,0,none⟩),Value.pointer (some ⟨g.ρ 4,0,none⟩)],args:=#[] }:Deferred)=d;generalize hA:(⟨a.tmps.setIfInBounds 18 F,[]⟩:Act)=A;have hO:(⟨a.tmps.setIfInBounds 18 F,[d]⟩:Act)=over A [d]:=by rw[←hA];rfl
 rw[hO];have hA18:∀i,i≠18→A.tmps.getD i undef=a.tmps.getD i undef:=fun i hi=>by rw[←hA];simp[Ne.symm hi]
 -- under the names of what is lent
 have hsub:subH ([2,3,4,1000000000].zip (objs3 ev zPg (.p (.i .i64 0)) (.p (.i .i64 0)))) (toBig [2,3,4,1000000000] 0) (memB [2,3,4,1000000000]) [2,3,4,1000000000] 0=some ([1000000000,1000000001,1000000002,1000000003].zip (objs3 ev zPg (.p (.i .i64 0)) (.p (.i .i64 0)))):=rfl
 have sL:Sim (g.lend [2,3,4,1000000000]) w 33 A ([2,3,4,0,5].zip (ptrsB++[.p (.s (S)),.p (.sl 3 T)])) ([1000000000,1000000001,1000000002,1000000003].zip (objs3 ev zPg (.p (.i .i64 0)) (.p (.i .i64 0)))):=by
  refine⟨by rw[←hA],by rw[←hA];simp[hsz],fun i=>?_,s.heap.lend (by decide) hsub,fun b o h=>?_⟩
  ·by_cases h18:i=18
   ·subst h18;exact .top _ _
   rw[hA18 i h18];have hs:=s.env i
   match i with
   |0=>generalize a.tmps.getD 0 undef=v at hs ⊢;cases hs with|p _ _ _ h=>exact .p _ _ _ h
   |1=>exact .top _ _
   |2=>generalize a.tmps.getD 2 undef=v at hs ⊢;cases hs with|ptr=>exact .ptr _ 1000000000 0 rfl
   |3=>generalize a.tmps.getD 3 undef=v at hs ⊢;cases hs with|ptr=>exact .ptr _ 1000000001 0 rfl
   |4=>generalize a.tmps.getD 4 undef=v at hs ⊢;cases hs with|ptr=>exact .ptr _ 1000000002 0 rfl
   |5=>generalize a.tmps.getD 5 undef=v at hs ⊢;cases hs with|p _ _ _ h=>exact .p _ _ _ h
   |i+6=>exact .top _ _
  ·have h:lendOwn _ (g.own b)=some o:=h
   cases hq:g.own b with
   |none=>rw[hq]at h;cases h
   |some q=>exact s.bnd b q hq
 have hg2:g.ρ 2=(g.lend [2,3,4,1000000000]).ρ 1000000000:=rfl;have hg3:g.ρ 3=(g.lend [2,3,4,1000000000]).ρ 1000000001:=rfl;have hg4:g.ρ 4=(g.lend [2,3,4,1000000000]).ρ 1000000002:=rfl;generalize hgL:g.lend [2,3,4,1000000000]=gL at sL hg2 hg3 hg4;refine AWpO.end (KP:=fun _=>False) (K:=fun x e h=>(x=.normal∨x=.ret)∧∃c2 c3 c4,Atv [2,3,4] [1000000000,1000000001,1000000002] ptrsB [.cells c2,.cells [c3],.cells [c4]] e h∧(∀c∈c2,flatV c)∧flatV c3∧flatV c4∧endK ev (vParse (pg,0,0)) c2 c3 c4) (awpO_sound (tyOf_ok _) hmix [d] _ _ _ _ (by kernel_rfl) ?_) sL (Ext.refl _ _) (fun _ h=>h) ?_
 ·conv=>whnf
  refine .inl (amc [23,1000000003] 500 h43 ?_);(conv=>whnf);refine .inl (amc [] 500 h44 ?_);(conv=>whnf);exact⟨.inr rfl,elCells pg,.p (.i .i64 0),.p (.i .i64 0),⟨rfl,rfl,rfl,rfl⟩,flat_elCells pg,trivial,trivial,end_some ev pg 0 0⟩
 ·rintro x gX wX aX e h ⟨hx,c2,c3,c4,ha,f2,f3,f4,hend⟩ sX hEX
  have sX:=sX.atv ha;have z2:=hEX.ρk 1000000000 (by decide);have z3:=hEX.ρk 1000000001 (by decide);have z4:=hEX.ρk 1000000002 (by decide)
  have key:Leaves Tryz.prog Tryz.f13 (over aX [d]).tmps (fun en w'=>∃v,en=.returned v∧∃g',VRel g' w' (domOf (hE ev)) (some .ret) v (vParse (pg,0,0))∧HRel g' w' (hE ev)∧(∀b ow,g'.own b=some ow→b<w'.heap.size)∧Ext g0 w0 g' w') (over aX [d]).defers .returning wX:=by
   rw[show(over aX [d]).defers=[d] by simp[over,sX.defers]];subst hd;refine leaves_cons (by simp) (by simp[invoke,go_sem]) ((catch_none gX wX _ ⟨g.ρ 2,0,none⟩ ⟨g.ρ 3,0,none⟩ ⟨g.ρ 4,0,none⟩ sX.heap sX.bnd).mono ?_);rintro en u' w' ⟨rfl,rfl,g',hH',hρ,hE'⟩
   have u2:aX.tmps.getD 2 undef=.pointer (some ⟨g'.ρ 1000000000,0,none⟩):=by
    have:=sX.env 2;rw[hρ];generalize aX.tmps.getD 2 undef=v at this;cases this;rfl
   have u3:aX.tmps.getD 3 undef=.pointer (some ⟨g'.ρ 1000000001,0,none⟩):=by
    have:=sX.env 3;rw[hρ];generalize aX.tmps.getD 3 undef=v at this;cases this;rfl
   have u4:aX.tmps.getD 4 undef=.pointer (some ⟨g'.ρ 1000000002,0,none⟩):=by
    have:=sX.env 4;rw[hρ];generalize aX.tmps.getD 4 undef=v at this;cases this;rfl
   subst hgL;obtain⟨v,hv,v1,gF,h1,h2⟩:=fin3 (by kernel_rfl) hH hE0 (hEX.trans hE') hH' rfl rfl rfl f2 f3 f4 u2 u3 u4 hend;exact⟨v,hv,v1,h1,gF,h2⟩
  rcases hx with rfl|rfl
  ·exact key
  ·exact key
end PA
