/- Contracts, and the law, for every input. No conditions. -/
import Derived.Test.YtdmopjgjhfhfdaaGreatDoorPAK
import Derived.Test.YtdmopjgjhfhfdaaGreatDoorTK4
import Derived.Test.YtdmopjgjhfhfdaaGreatDoorLS2
import Derived.Test.YtdmopjgjhfhfdaaGreatDoorAMDfr
open Go Go.AM Go.Proofs TK TR
set_option maxRecDepth 100000
namespace PA
def pg0:LPg:=⟨⟨#[]⟩,0,[],[],[],[],[],[]⟩
def parseF (l:Bs):LPg×Int×Int:=match readF l with
 |(T,at_,e)=>bif e != 0 then (pg0,at_,e) else match programF T l.length 0 with
  |.error p=>(pg0,p,10)
  |.ok (pg,_)=>bif rPg pg != 0 then (pg0,0,rPg pg) else (pg,0,0)
theorem readGo_inv (P:Tk→Prop) (N:Nat) (hP:∀(c:UInt8) (r:Bs) (i:Nat),r.length+1≤N→(nextF (c::r)).2.2≠0→P ⟨(nextF (c::r)).1,(nextF (c::r)).2.1,i⟩):∀(n:Nat) (l:Bs) (i:Nat) (o:List Tk),n≤N→l.length≤n→(∀t∈o,P t)→∀o',readGo l i o=(o',none)→o'.length≤o.length+l.length∧∀t∈o',P t
 |n,[],i,o,_,_,hp,o',h=>by rw[readGo]at h;cases h;exact⟨by simp,hp⟩
 |0,_::_,i,o,_,hn,_,_,_=>by simp at hn
 |n+1,c::r,i,o,hnN,hn,hp,o',h=>by
  simp only[List.length_cons]at hn;rw[readGo]at h
  cases h1:blankF c with
  |true=>
   rw[h1,cond_true]at h;have:=readGo_inv P N hP n r _ o (by omega) (by omega) hp o' h;exact⟨by simp only[List.length_cons];omega,this.2⟩
  |false=>
   rw[h1,cond_false]at h
   cases h2:bi c==35 with
   |true=>
    rw[h2,cond_true]at h;have:=readGo_inv P N hP n (r.drop (spanF nlF r)) _ o (by omega) (by rw[List.length_drop];omega) hp o' h;rw[List.length_drop]at this;exact⟨by simp only[List.length_cons];omega,this.2⟩
   |false=>
    rw[h2,cond_false]at h;simp only at h
    cases h3:(nextF (c::r)).2.2==0 with
    |true=>rw[h3,cond_true]at h;cases h
    |false=>
     rw[h3,cond_false]at h;have hne:(nextF (c::r)).2.2≠0:=by simpa using h3
     have:=readGo_inv P N hP n (r.drop ((nextF (c::r)).2.2-1)) _ (o++[⟨(nextF (c::r)).1,(nextF (c::r)).2.1,i⟩]) (by omega) (by rw[List.length_drop];omega) (by
      intro t ht;rcases List.mem_append.1 ht with ht|ht
      ·exact hp t ht
      ·rw[List.mem_singleton]at ht;subst ht;exact hP c r i (by omega) hne) o' h
     rw[List.length_drop,List.length_append]at this;simp only[List.length_cons,List.length_nil]at this ⊢;exact⟨by omega,this.2⟩
end PA
open Go Go.AM Go.Proofs TK TR
set_option maxRecDepth 100000
namespace PA
theorem spanF_all (f:UInt8→Bool):∀(l:Bs),∀c∈l.take (spanF f l),f c=true
 | []=>by simp
 |d::r=>by
  rw[spanF]
  cases h:f d with
  |false=>simp
  |true=>
   rw[cond_true,List.take_succ_cons];intro c hc;rcases List.mem_cons.1 hc with rfl|hc
   ·exact h
   ·exact spanF_all f r c hc
theorem parseUintM_digits (M:Nat):∀(l:List UInt8) (acc:Nat),(∀c∈l,digitF c=true)→okN (Lib.parseUintM M acc l)=true
 | [],acc,_=>by rw[Lib.parseUintM];rfl
 |c::r,acc,h=>by
  have h1:=h c (by simp);unfold digitF bi at h1;rw[Bool.and_eq_true,decide_eq_true_eq,decide_eq_true_eq]at h1;rw[Lib.parseUintM];have hr:=fun a=>parseUintM_digits M r a (fun c hc=>h c (List.mem_cons_of_mem _ hc))
  repeat' split
  all_goals first|exact hr _|(exfalso;omega)|rfl
theorem parse_digits (l:List UInt8) (h0:l≠[]) (h:∀c∈l,digitF c=true) (pre:ByteArray) (hp:pre=⟨#[]⟩∨pre=⟨#[45]⟩):okN (Lib.parseIntB 64 (pre.data.toList++l))=true:=by
 have hu:okN (Lib.parseUintB 64 l)=true:=by
  unfold Lib.parseUintB;rw[if_neg h0];exact parseUintM_digits _ l 0 h
 match l,h0 with
 |c::r,_=>
 have h1:=h c (by simp);unfold digitF bi at h1;rw[Bool.and_eq_true,decide_eq_true_eq,decide_eq_true_eq]at h1;rcases hp with rfl|rfl
 ·show okN (Lib.parseIntB 64 (c::r))=true
  unfold Lib.parseIntB;simp only;rw[if_neg (by omega)];rcases hq:Lib.parseUintB 64 (c::r) with u|_|_
  ·simp only
   repeat' split
   all_goals rfl
  ·rw[hq]at hu;cases hu
  ·rfl
 ·show okN (Lib.parseIntB 64 (45::c::r))=true
  unfold Lib.parseIntB;simp only;rw[if_pos (by decide)];rcases hq:Lib.parseUintB 64 (c::r) with u|_|_
  ·simp only
   repeat' split
   all_goals rfl
  ·rw[hq]at hu;cases hu
  ·rfl
theorem tok_of (l:Bs) (hl:l.length≤4000) (T:List Tk) (h:readGo l 0 []=(T,none)):TOK T:=by
 have:=readGo_inv (fun t=>t.kind=4→t.text≠[]∧t.text.length≤4000∧∀c∈t.text,digitF c=true) l.length (fun c r i hn hne=>by
  show(nextF (c::r)).1=4→(nextF (c::r)).2.1≠[]∧(nextF (c::r)).2.1.length≤4000∧∀d∈(nextF (c::r)).2.1,digitF d=true;intro h4;unfold nextF at h4 ⊢;simp only at h4 ⊢
  cases h1:letterF c with
  |true=>
   rw[h1,cond_true]at h4;exfalso
   revert h4
   cases wordF _<;>cases lowF _<;>cases upF _<;>first|exact(by decide:¬((0:Int)=4))|exact(by decide:¬((1:Int)=4))|exact(by decide:¬((2:Int)=4))|exact(by decide:¬((3:Int)=4))
  |false=>
   rw[h1,cond_false]at h4
   cases h2:digitF c with
   |true=>
    rw[h2,cond_true]at h4;simp only[cond_false,cond_true]
    have fin:(c::r).take (spanF digitF (c::r))≠[]∧((c::r).take (spanF digitF (c::r))).length≤4000∧∀d∈(c::r).take (spanF digitF (c::r)),digitF d=true:=by
     refine⟨?_,?_,spanF_all digitF (c::r)⟩
     ·rw[spanF,h2,cond_true,List.take_succ_cons];simp
     ·rw[List.length_take,List.length_cons];omega
    revert h4
    cases hq:(c::r)[spanF digitF (c::r)]? with
    |none=>exact fun _=>fin
    |some d=>
     dsimp only
     cases partF d with
     |true=>exact fun h=>absurd h (by decide:¬((0:Int)=4))
     |false=>exact fun _=>fin
   |false=>
    rw[h2,cond_false]at h4;exfalso
    revert h4
    cases bi c==34 with
    |true=>exact(by decide:¬((5:Int)=4))
    |false=>
     rw[cond_false]
     cases decide ((c::r).length≥2)&&signF ((c::r).take 2) with
     |true=>exact(by decide:¬((6:Int)=4))
     |false=>
      rw[cond_false]
      cases signF ((c::r).take 1) with
      |true=>exact(by decide:¬((6:Int)=4))
      |false=>exact(by decide:¬((0:Int)=4))) l.length l 0 [] (Nat.le_refl _) (Nat.le_refl _) (by simp) T h
 refine⟨by have:=this.1;simp only[List.length_nil]at this;omega,fun t ht h4 pre hp=>?_⟩;obtain⟨k1,k2,k3⟩:=this.2 t ht h4;refine⟨?_,?_⟩
 ·rw[ByteArray.size_append,B_size]
  rcases hp with rfl|rfl
  ·show 0+_≤_;omega
  ·show 1+_≤_;omega
 ·have:=parse_digits t.text k1 k3 pre hp
  rw[show(pre++B t.text).data.toList=pre.data.toList++t.text by simp[ByteArray.data_append,B_data]];exact this
end PA
open Go Go.AM Go.Proofs TK TR
set_option maxRecDepth 100000
namespace PA
def vParse (x:LPg×Int×Int):AV:=.tup [.p (elPg x.1),.p (.i .i64 x.2.1),.p (.i .i64 x.2.2)]
def hE (ev:Value):Heap:=[(1000000000,.glob 2 [ev])]
def endK (ev:Value) (r:AV) (c2:List AV) (c3 c4:AV):Prop:=
 match resOf (tyOf Tryz.prog) Tryz.f23.results.toList Tryz.f23.resultTypes.toList [(2,.ptr 2 0),(3,.ptr 3 0),(4,.ptr 4 0)] [(2,.cells c2),(3,.cells [c3]),(4,.cells [c4]),(1000000000,.glob 2 [ev])] with
  |some v=>RetOK v r∧heapOK [(2,.cells c2),(3,.cells [c3]),(4,.cells [c4]),(1000000000,.glob 2 [ev])] (hE ev)
  |none=>False
theorem end_some (ev:Value) (pg:LPg) (x e:Int):endK ev (vParse (pg,x,e)) (elCells pg) (.p (.i .i64 x)) (.p (.i .i64 e)):=by
 unfold endK;(conv=>whnf);exact⟨.inl rfl,⟨rfl,rfl⟩,trivial⟩
def flatV:AV→Prop
 |.p _=>True
 |.nilS=>True
 |_=>False
theorem flat_rel {g g':Gh} {w w':World} {dom dom':Nat→Prop} {ow ow':Option Owner} {v:Value} {x:AV} (hx:flatV x) (hi:∀b o v,imm g w b o=some v→imm g' w' b o=some v) (hs:∀s k a,g.σ s k=some a→g'.σ s k=some a) (r:VRel g w dom ow v x):VRel g' w' dom' ow' v x:=by
 cases r with
 |p _ _ _ h=>exact .p _ _ _ (h.mono hi hs)
 |nilS=>exact .nilS _
 |_=>exact hx.elim
theorem flat_cells {g g':Gh} {w w':World} {dom dom':Nat→Prop} {l l':Nat} {cs:List AV} (hf:∀c∈cs,flatV c) (hi:∀b o v,imm g w b o=some v→imm g' w' b o=some v) (hs:∀s k a,g.σ s k=some a→g'.σ s k=some a) (hb:w'.heap[g'.ρ l']?=w.heap[g.ρ l]?) (r:ORel g w dom l (.cells cs)):ORel g' w' dom' l' (.cells cs):=by
 cases r with
 |cells _ vs E h1 h2 h3 h4=>exact .cells _ vs E (hb.trans h1) h2 (fun j v c q1 q2=>flat_rel (hf c (List.mem_of_getElem? q2)) hi hs (h3 j v c q1 q2)) h4
def objs3 (ev:Value) (c2:List AV) (c3 c4:AV):List AObj:=[.cells c2,.cells [c3],.cells [c4],.glob 2 [ev]]
def ptrs:List AV:=[.ptr 2 0,.ptr 3 0,.ptr 4 0]
def ptrsB:List AV:=[.ptr 1000000000 0,.ptr 1000000001 0,.ptr 1000000002 0]
theorem flat_elCells (pg:LPg):∀c∈elCells pg,flatV c:=by
 intro c hc;simp only[elCells,List.mem_cons,List.not_mem_nil,or_false]at hc;rcases hc with rfl|rfl|rfl|rfl|rfl|rfl|rfl|rfl<;>trivial
theorem fin3 {ev:Value} {g0 g gX:Gh} {w0 w wX:World} {hX:Heap} {tm:Array Value} {c2:List AV} {c3 c4:AV} {r:AV} (hr:(r.within (memB (keysOf (hE ev)))&&objsIn (memB (keysOf (hE ev))) (hE ev))=true)
 (hH:HRel g0 w0 (hE ev)) (hE0:Ext g0 w0 g w) (hEX:Ext (g.lend [2,3,4,1000000000]) w gX wX) (hHX:HRel gX wX hX) (q2:hget hX 1000000000=some (.cells c2)) (q3:hget hX 1000000001=some (.cells [c3])) (q4:hget hX 1000000002=some (.cells [c4]))
 (f2:∀c∈c2,flatV c) (f3:flatV c3) (f4:flatV c4) (t2:tm.getD 2 undef=.pointer (some ⟨gX.ρ 1000000000,0,none⟩)) (t3:tm.getD 3 undef=.pointer (some ⟨gX.ρ 1000000001,0,none⟩)) (t4:tm.getD 4 undef=.pointer (some ⟨gX.ρ 1000000002,0,none⟩)) (hend:endK ev r c2 c3 c4):
 ∃v,(results Tryz.f23 tm).run Tryz.prog wX=.ok v wX∧(∃v1 g',Ending.returned v=.returned v1∧VRel g' wX (domOf (hE ev)) (some .ret) v1 r∧HRel g' wX (hE ev)∧(∀b ow,g'.own b=some ow→b<wX.heap.size)∧Ext g0 w0 g' wX):=by
 have o2:=hHX.own _ _ q2 rfl;have o3:=hHX.own _ _ q3 rfl;have o4:=hHX.own _ _ q4 rfl;have r2:=hHX.obj _ _ q2;have r3:=hHX.obj _ _ q3;have r4:=hHX.obj _ _ q4;have n23:gX.ρ 1000000000≠gX.ρ 1000000001:=fun q=>by rw[q,o3]at o2;cases o2
 have n24:gX.ρ 1000000000≠gX.ρ 1000000002:=fun q=>by rw[q,o4]at o2;cases o2
 have n34:gX.ρ 1000000001≠gX.ρ 1000000002:=fun q=>by rw[q,o4]at o3;cases o3
 have pr2:=hHX.pre _ _ q2 rfl;have pr3:=hHX.pre _ _ q3 rfl;have pr4:=hHX.pre _ _ q4 rfl
 obtain⟨gl1,Eg,frg,gl2⟩:g0.own 2=none∧∃(E:TypeId) (fr:Nat×Nat),w0.heap[2]?=some (.cells #[ev] E fr):=by
  have:=hH.obj 1000000000 _ rfl
  cases this with
  |glob _ _ h=>exact h
 have hkept:∀b,b<w0.heap.size→g0.own b=none→wX.heap[b]?=w0.heap[b]?∧gX.pre b=g0.pre b:=fun b hb ho=>by
  obtain⟨k1,k2,k3⟩:=hE0.kept b hb ho;obtain⟨k4,k5,_⟩:=hEX.kept b (Nat.lt_of_lt_of_le hb hE0.size) (by show lendOwn _ (g.own b)=none;rw[k3];rfl);exact⟨k4.trans k1,k5.trans k2⟩
 have hk2:=hkept 2 (Array.getElem?_eq_some_iff.1 gl2).1 gl1
 have lt:∀{l:Nat} {cs:List AV},ORel gX wX (domOf hX) l (.cells cs)→gX.ρ l<wX.heap.size:=fun r=>by
  cases r with
  |cells _ vs E h1 _ _ _=>exact(Array.getElem?_eq_some_iff.1 h1).1
 -- the blocks are not there at the start
 have hnew:∀b,b<w0.heap.size→g0.own b=none→b≠gX.ρ 1000000000∧b≠gX.ρ 1000000001∧b≠gX.ρ 1000000002:=fun b hb ho=>by
  obtain⟨k1,k2,k3⟩:=hE0.kept b hb ho;obtain⟨k4,k5,k6⟩:=hEX.kept b (Nat.lt_of_lt_of_le hb hE0.size) (by show lendOwn _ (g.own b)=none;rw[k3];rfl);refine⟨fun q=>?_,fun q=>?_,fun q=>?_⟩
  ·rw[q,o2]at k6;cases k6
  ·rw[q,o3]at k6;cases k6
  ·rw[q,o4]at k6;cases k6
 let gF:Gh:={ pre:=gX.pre,own:=fun b=>if b=gX.ρ 1000000000 then some (.obj 2) else if b=gX.ρ 1000000001 then some (.obj 3) else if b=gX.ρ 1000000002 then some (.obj 4) else none,
              ρ:=fun l=>if l=2 then gX.ρ 1000000000 else if l=3 then gX.ρ 1000000001 else if l=4 then gX.ρ 1000000002 else g0.ρ l,σ:=gX.σ,sown:=g0.sown }
 have e2:gF.ρ 2=gX.ρ 1000000000:=rfl;have e3:gF.ρ 3=gX.ρ 1000000001:=rfl;have e4:gF.ρ 4=gX.ρ 1000000002:=rfl;have hsame:∀b o v,imm gX wX b o=some v→imm gF wX b o=some v:=fun _ _ _ h=>h
 have hF:Ext g0 w0 gF wX:=by
  refine⟨Nat.le_trans hE0.size hEX.size,hEX.os.trans hE0.os,hEX.out.trans hE0.out,fun b o v hv=>hEX.imm b o v (hE0.imm b o v hv),fun b hb ho=>?_,⟨fun s k a q=>hEX.frz.1 s k a (hE0.frz.1 s k a q),rfl,fun s q k=>(hEX.frz.2.2 s (by show lendS _ (g.sown s)=none;rw[hE0.frz.2.1,q];rfl) k).trans (hE0.frz.2.2 s q k)⟩,fun a ha=>?_,fun l hl=>?_,fun b cs E hb=>?_⟩
  ·obtain⟨k1,k2⟩:=hkept b hb ho
   obtain⟨k3,k4,k5⟩:=hnew b hb ho;refine⟨k1,k2,?_⟩;show(if b=gX.ρ 1000000000 then some (Owner.obj 2) else if b=gX.ρ 1000000001 then some (.obj 3) else if b=gX.ρ 1000000002 then some (.obj 4) else none)=none;rw[if_neg k3,if_neg k4,if_neg k5]
  ·rw[hEX.frz' a (Nat.lt_of_lt_of_le ha hE0.size)];exact hE0.frz' a ha
  ·have hl:1000000000≤l:=hl
   show(if l=2 then _ else if l=3 then _ else if l=4 then _ else g0.ρ l)=g0.ρ l;rw[if_neg (by omega),if_neg (by omega),if_neg (by omega)]
  ·obtain⟨cs1,E1,k1,k2⟩:=hE0.siz b cs E hb
   obtain⟨cs2,E2,k3,k4⟩:=hEX.siz b cs1 E1 k1;exact⟨cs2,E2,k3,k4.trans k2⟩
 have f3':∀c∈[c3],flatV c:=fun c hc=>by rw[List.mem_singleton]at hc;subst hc;exact f3
 have f4':∀c∈[c4],flatV c:=fun c hc=>by rw[List.mem_singleton]at hc;subst hc;exact f4
 have hcase:∀l o,hget [(2,.cells c2),(3,.cells [c3]),(4,.cells [c4]),(1000000000,.glob 2 [ev])] l=some o→(l=2∧o=.cells c2)∨(l=3∧o=.cells [c3])∨(l=4∧o=.cells [c4])∨(l=1000000000∧o=.glob 2 [ev]):=by
  intro l o h
  by_cases h2:2=l
  ·subst h2;rw[hget_self]at h;cases h;exact .inl ⟨rfl,rfl⟩
  rw[hget_ne h2]at h
  by_cases h3:3=l
  ·subst h3;rw[hget_self]at h;cases h;exact .inr (.inl ⟨rfl,rfl⟩)
  rw[hget_ne h3]at h
  by_cases h4:4=l
  ·subst h4;rw[hget_self]at h;cases h;exact .inr (.inr (.inl ⟨rfl,rfl⟩))
  rw[hget_ne h4]at h
  by_cases h5:1000000000=l
  ·subst h5;rw[hget_self]at h;cases h;exact .inr (.inr (.inr ⟨rfl,rfl⟩))
  rw[hget_ne h5]at h;cases h
 have sF:Sim gF wX tm.size ⟨tm,[]⟩ [(2,.ptr 2 0),(3,.ptr 3 0),(4,.ptr 4 0)] [(2,.cells c2),(3,.cells [c3]),(4,.cells [c4]),(1000000000,.glob 2 [ev])]:=by
  refine⟨rfl,rfl,fun i=>?_,⟨fun l o h=>?_,fun l o h hs=>?_,fun l o h hs=>?_⟩,fun b o h=>?_⟩
  ·by_cases h2:2=i
   ·subst h2;show VRel _ _ _ _ (tm.getD 2 undef) _;rw[t2,eget_self,←e2];exact .ptr _ _ _ rfl
   by_cases h3:3=i
   ·subst h3;show VRel _ _ _ _ (tm.getD 3 undef) _;rw[t3,←e3];exact .ptr _ _ _ rfl
   by_cases h4:4=i
   ·subst h4;show VRel _ _ _ _ (tm.getD 4 undef) _;rw[t4,←e4];exact .ptr _ _ _ rfl
   rw[eget_ne h2,eget_ne h3,eget_ne h4];exact .top _ _
  ·rcases hcase l o h with⟨rfl,rfl⟩|⟨rfl,rfl⟩|⟨rfl,rfl⟩|⟨rfl,rfl⟩
   ·exact flat_cells f2 hsame (fun _ _ _ q=>q) rfl r2
   ·exact flat_cells f3' hsame (fun _ _ _ q=>q) rfl r3
   ·exact flat_cells f4' hsame (fun _ _ _ q=>q) rfl r4
   ·refine .glob _ _ ⟨?_,Eg,frg,hk2.1.trans gl2⟩
    have:=hnew 2 (Array.getElem?_eq_some_iff.1 gl2).1 gl1;show(if 2=gX.ρ 1000000000 then some (Owner.obj 2) else if 2=gX.ρ 1000000001 then some (.obj 3) else if 2=gX.ρ 1000000002 then some (.obj 4) else none)=none;rw[if_neg this.1,if_neg this.2.1,if_neg this.2.2]
  ·rcases hcase l o h with⟨rfl,rfl⟩|⟨rfl,rfl⟩|⟨rfl,rfl⟩|⟨rfl,rfl⟩
   ·show(if gX.ρ 1000000000=gX.ρ 1000000000 then some (Owner.obj 2) else _)=_
    rw[if_pos rfl]
   ·show(if gX.ρ 1000000001=gX.ρ 1000000000 then some (Owner.obj 2) else if gX.ρ 1000000001=gX.ρ 1000000001 then some (.obj 3) else _)=_
    rw[if_neg (Ne.symm n23),if_pos rfl]
   ·show(if gX.ρ 1000000002=gX.ρ 1000000000 then some (Owner.obj 2) else if gX.ρ 1000000002=gX.ρ 1000000001 then some (.obj 3) else if gX.ρ 1000000002=gX.ρ 1000000002 then some (.obj 4) else _)=_
    rw[if_neg (Ne.symm n24),if_neg (Ne.symm n34),if_pos rfl]
   ·cases hs
  ·rcases hcase l o h with⟨rfl,rfl⟩|⟨rfl,rfl⟩|⟨rfl,rfl⟩|⟨rfl,rfl⟩
   ·exact pr2
   ·exact pr3
   ·exact pr4
   ·cases hs
  ·have h:(if b=gX.ρ 1000000000 then some (Owner.obj 2) else if b=gX.ρ 1000000001 then some (.obj 3) else if b=gX.ρ 1000000002 then some (.obj 4) else none)=some o:=h
   by_cases k2:b=gX.ρ 1000000000
   ·rw[k2];exact lt r2
   by_cases k3:b=gX.ρ 1000000001
   ·rw[k3];exact lt r3
   by_cases k4:b=gX.ρ 1000000002
   ·rw[k4];exact lt r4
   rw[if_neg k2,if_neg k3,if_neg k4]at h;cases h
 exact done_rel (tyOf_ok Tryz.prog) (fn:=Tryz.f23) hr sF hF hend
def okL (l:Bs):Bool:=match readF l with
 |(T,_,er)=>(er==0)&&(match programF T l.length 0 with
  |.ok (pg,_)=>(rPg pg==0)&&Nat.ble (wlPg pg) 1048576
  |.error _=>false)
set_option maxHeartbeats 2000000 in
theorem read_run (ev:Value) (hev:ev=.nilIface∨∃te pe,ev=.iface te pe) (l:Bs) (hok:okL l=true):AMem Tryz.prog 23 [.p (.s (B l))] (hE ev) (vParse (parseF l)) (hE ev):=by
 refine⟨⟨⟨_,_,Tryz.func23,rfl,rfl⟩,by simp[hE,globB,hget]⟩,fun g0 w0 vs hH hbn hl hrel=>?_⟩;have s0:=Sim.start (fn:=Tryz.f23) (by show 1≤33;decide) hH hbn hl hrel;refine calls_of_wp_defers Tryz.func23 rfl ?_;refine AWp.andThen (AWp.fin (tyOf_ok Tryz.prog) hmix (K:=fun x e h=>x=.normal∧Atv [2,3,4,0] [2,3,4,1000000000] (ptrs++[.p (.s (B l))]) (objs3 ev zPg (.p (.i .i64 0)) (.p (.i .i64 0))) e h) (by kernel_rfl) ?_) s0 (Ext.refl _ _) ?_ ?_
 ·conv=>whnf
  exact⟨rfl,rfl,rfl,rfl,rfl⟩
 rotate_left
 ·rintro x g' w' a' e' h' hx ⟨rfl,_⟩;exact absurd rfl hx
 rintro g w a e h ⟨-,ha⟩ s hE0;replace s:=s.atv ha;clear ha e h s0;obtain⟨⟨T,p,er⟩,hr⟩:∃x,readF l=x:=⟨_,rfl⟩
 have hread:=read_spec l;rw[hr]at hread
 have hpf:parseF l=bif er != 0 then (pg0,(p:Int),er) else match programF T l.length 0 with
  |.error p=>(pg0,p,10)
  |.ok (pg,_)=>bif rPg pg != 0 then (pg0,0,rPg pg) else (pg,0,0):=by unfold parseF;first|(rw[hr];rfl)|rw[hr]
 unfold okL at hok;rw[hr]at hok;rw[hpf];clear hpf;simp only[Bool.and_eq_true]at hok;obtain⟨he0,hp0⟩:=hok;refine AWp.andThen (AWp.fin (tyOf_ok Tryz.prog) hmix (K:=fun x e h=>x=.normal∧Atv [2,3,4,0,5] [2,3,4,1000000000] (ptrs++[.p (.s (B l)),.p (.sl 3 (T.map eTk))]) (objs3 ev zPg (.p (.i .i64 p)) (.p (.i .i64 er))) e h) (by kernel_rfl) ?_) s hE0 ?_ ?_
 ·conv=>whnf
  refine apc hread ?_;(conv=>whnf);exact⟨rfl,rfl,rfl,rfl,rfl⟩
 rotate_left
 ·rintro x g' w' a' e' h' hx ⟨rfl,_⟩;exact absurd rfl hx
 clear s hE0 g w a;rintro g w a e h ⟨-,ha⟩ s hE0;replace s:=s.atv ha;clear ha e h;generalize hb:(er != 0)=b
 cases b with
 |true=>
  have:er=0:=by simpa using he0
  rw[this]at hb;cases hb
 |false=>
  rw[cond_false];refine AWp.andThen (AWp.fin (tyOf_ok Tryz.prog) hmix (K:=fun x e h=>x=.normal∧Atv [2,3,4,0,5] [2,3,4,1000000000] (ptrs++[.p (.s (B l)),.p (.sl 3 (T.map eTk))]) (objs3 ev zPg (.p (.i .i64 p)) (.p (.i .i64 er))) e h) (by kernel_rfl) ?_) s hE0 ?_ ?_
  ·conv=>whnf
   rw[hb];(conv=>whnf);exact⟨rfl,rfl,rfl,rfl,rfl⟩
  rotate_left
  ·rintro x g' w' a' e' h' hx ⟨rfl,_⟩;exact absurd rfl hx
  clear s hE0 g w a;rintro g w a e h ⟨-,ha⟩ s hE0;replace s:=s.atv ha;clear ha e h;have p2:a.tmps[2]?.getD undef=.pointer (some ⟨g.ρ 2,0,none⟩):=by have:=s.env 2;rw[←Array.getD_eq_getD_getElem?];generalize a.tmps.getD 2 undef=v at this;cases this;rfl
  have p3:a.tmps[3]?.getD undef=.pointer (some ⟨g.ρ 3,0,none⟩):=by have:=s.env 3;rw[←Array.getD_eq_getD_getElem?];generalize a.tmps.getD 3 undef=v at this;cases this;rfl
  have p4:a.tmps[4]?.getD undef=.pointer (some ⟨g.ρ 4,0,none⟩):=by have:=s.env 4;rw[←Array.getD_eq_getD_getElem?];generalize a.tmps.getD 4 undef=v at this;cases this;rfl
  refine wp_seq (wp_region ?_);have hsz:a.tmps.size=33:=s.size;simp[wpOps,go_sem,hsz,s.defers];refine .inl (.inl ?_);have p2':a.tmps[2]'(by omega)=.pointer (some ⟨g.ρ 2,0,none⟩):=by rw[←p2];simp[hsz]
  have p3':a.tmps[3]'(by omega)=.pointer (some ⟨g.ρ 3,0,none⟩):=by rw[←p3];simp[hsz]
  have p4':a.tmps[4]'(by omega)=.pointer (some ⟨g.ρ 4,0,none⟩):=by rw[←p4];simp[hsz]
  rw[p2',p3',p4'];generalize hfn:Value.func (Fn.func 42) #[] #[Value.pointer (some ⟨g.ρ 2,0,none⟩),Value.pointer (some ⟨g.ρ 3,0,none⟩),Value.pointer (some ⟨g.ρ 4,0,none⟩)]=F;generalize hd:({ target:=Target.fn (Fn.func 42) #[Value.pointer (some ⟨g.ρ 2,0,none⟩),Value.pointer (some ⟨g.ρ 3,0,none⟩),Value.pointer (some ⟨g.ρ 4,0,none⟩)],args:=#[] }:Deferred)=d;generalize hA:(⟨a.tmps.setIfInBounds 18 F,[]⟩:Act)=A;have hO:(⟨a.tmps.setIfInBounds 18 F,[d]⟩:Act)=over A [d]:=by rw[←hA];rfl
  rw[hO];have hA18:∀i,i≠18→A.tmps.getD i undef=a.tmps.getD i undef:=fun i hi=>by rw[←hA];simp[Ne.symm hi]
  -- under the names of what is lent
  have hsub:subH ([2,3,4,1000000000].zip (objs3 ev zPg (.p (.i .i64 p)) (.p (.i .i64 er)))) (toBig [2,3,4,1000000000] 0) (memB [2,3,4,1000000000]) [2,3,4,1000000000] 0=some ([1000000000,1000000001,1000000002,1000000003].zip (objs3 ev zPg (.p (.i .i64 p)) (.p (.i .i64 er)))):=rfl
  have sL:Sim (g.lend [2,3,4,1000000000]) w 33 A ([2,3,4,0,5].zip (ptrsB++[.p (.s (B l)),.p (.sl 3 (T.map eTk))])) ([1000000000,1000000001,1000000002,1000000003].zip (objs3 ev zPg (.p (.i .i64 p)) (.p (.i .i64 er)))):=by
   refine⟨by rw[←hA],by rw[←hA];simp[hsz],fun i=>?_,s.heap.lend (by decide) hsub,fun b o h=>?_⟩
   ·by_cases h18:i=18
    ·subst h18;exact .top _ _
    rw[hA18 i h18];have hs:=s.env i
    match i with
    |0=>generalize a.tmps.getD 0 undef=v at hs ⊢;cases hs with|p _ _ _ h=>exact .p _ _ _ h
    |1=>exact .top _ _
    |2=>generalize a.tmps.getD 2 undef=v at hs ⊢;cases hs with|ptr=>exact .ptr _ 1000000000 0 rfl
    |3=>generalize a.tmps.getD 3 undef=v at hs ⊢;cases hs with|ptr=>exact .ptr _ 1000000001 0 rfl
    |4=>generalize a.tmps.getD 4 undef=v at hs ⊢;cases hs with|ptr=>exact .ptr _ 1000000002 0 rfl
    |5=>generalize a.tmps.getD 5 undef=v at hs ⊢;cases hs with|p _ _ _ h=>exact .p _ _ _ h
    |i+6=>exact .top _ _
   ·have h:lendOwn _ (g.own b)=some o:=h
    cases hq:g.own b with
    |none=>rw[hq]at h;cases h
    |some q=>exact s.bnd b q hq
  have hg2:g.ρ 2=(g.lend [2,3,4,1000000000]).ρ 1000000000:=rfl;have hg3:g.ρ 3=(g.lend [2,3,4,1000000000]).ρ 1000000001:=rfl;have hg4:g.ρ 4=(g.lend [2,3,4,1000000000]).ρ 1000000002:=rfl;generalize hgL:g.lend [2,3,4,1000000000]=gL at sL hg2 hg3 hg4;have hrd:readF l=(T,p,er):=hr;unfold readF at hr;have her:er=0:=by simpa using hb
  subst her
  cases hlen:decide (l.length>4000) with
  |true=>rw[hlen,cond_true]at hr;cases hr
  |false=>
  rw[hlen,cond_false]at hr;have hlen:=of_decide_eq_false hlen
  have hrg:readGo l 0 []=(T,none):=by
   rcases hq:readGo l 0 [] with⟨o,x⟩
   rw[hq]at hr
   cases x with
   |none=>simp only[Prod.mk.injEq]at hr;rw[hr.1]
   |some i=>simp only[Prod.mk.injEq]at hr;exact absurd hr.2.2 (by decide)
  have hT:=tok_of l (by omega) T hrg;have hprog:=program_spec (pi_holds ev hev) T hT l.length 0 (Nat.zero_le _);rcases hpr:programF T l.length 0 with x|⟨pg,b⟩
  ·rw[hpr]at hp0;cases hp0
  ·rw[hpr]at hprog
   rw[hpr]at hp0;simp only[Bool.and_eq_true]at hp0;have hright:=right_spec pg (Nat.le_of_ble_eq_true hp0.2);simp only;refine AWpO.end (K:=fun x e h=>(x=.normal∨x=.ret)∧∃c2 c3 c4,Atv [2,3,4] [1000000000,1000000001,1000000002] ptrsB [.cells c2,.cells [c3],.cells [c4]] e h∧(∀c∈c2,flatV c)∧flatV c3∧flatV c4∧endK ev (vParse (bif rPg pg != 0 then (pg0,0,rPg pg) else (pg,0,0))) c2 c3 c4) (awpO_sound (tyOf_ok _) hmix [d] _ _ _ _ (by kernel_rfl) ?_) sL (Ext.refl _ _) ?_
   ·rw[←B_size l]at hprog
    (conv=>whnf);refine amc [23,1000000003] 500 (hprog _ _ rfl) ?_;(conv=>whnf);refine apc hright ?_;(conv=>whnf);generalize hb:(rPg pg != 0)=bb
    cases bb with
    |true=>
     have:rPg pg=0:=by simpa using hp0.1
     rw[this]at hb;cases hb
    |false=>
     (conv=>whnf);exact⟨.inr rfl,elCells pg,.p (.i .i64 0),.p (.i .i64 0),⟨rfl,rfl,rfl,rfl⟩,flat_elCells pg,trivial,trivial,end_some ev pg 0 0⟩
   ·rintro x gX wX aX e h ⟨hx,c2,c3,c4,ha,f2,f3,f4,hend⟩ sX hEX
    have sX:=sX.atv ha;have z2:=hEX.ρk 1000000000 (by decide);have z3:=hEX.ρk 1000000001 (by decide);have z4:=hEX.ρk 1000000002 (by decide)
    have key:Leaves Tryz.prog Tryz.f23 (over aX [d]).tmps (fun en w'=>∃v,en=.returned v∧∃g',VRel g' w' (domOf (hE ev)) (some .ret) v (vParse (bif rPg pg != 0 then (pg0,0,rPg pg) else (pg,0,0)))∧HRel g' w' (hE ev)∧(∀b ow,g'.own b=some ow→b<w'.heap.size)∧Ext g0 w0 g' w') (over aX [d]).defers .returning wX:=by
     rw[show(over aX [d]).defers=[d] by simp[over,sX.defers]];subst hd;refine leaves_cons (by simp) (by simp[invoke,go_sem]) ((catch_none gX wX _ ⟨g.ρ 2,0,none⟩ ⟨g.ρ 3,0,none⟩ ⟨g.ρ 4,0,none⟩ sX.heap sX.bnd).mono ?_);rintro en u' w' ⟨rfl,rfl,g',hH',hρ,hE'⟩
     have u2:aX.tmps.getD 2 undef=.pointer (some ⟨g'.ρ 1000000000,0,none⟩):=by
      have:=sX.env 2;rw[hρ];generalize aX.tmps.getD 2 undef=v at this;cases this;rfl
     have u3:aX.tmps.getD 3 undef=.pointer (some ⟨g'.ρ 1000000001,0,none⟩):=by
      have:=sX.env 3;rw[hρ];generalize aX.tmps.getD 3 undef=v at this;cases this;rfl
     have u4:aX.tmps.getD 4 undef=.pointer (some ⟨g'.ρ 1000000002,0,none⟩):=by
      have:=sX.env 4;rw[hρ];generalize aX.tmps.getD 4 undef=v at this;cases this;rfl
     subst hgL;obtain⟨v,hv,v1,gF,h1,h2⟩:=fin3 (by kernel_rfl) hH hE0 (hEX.trans hE') hH' rfl rfl rfl f2 f3 f4 u2 u3 u4 hend;exact⟨v,hv,v1,h1,gF,h2⟩
    rcases hx with rfl|rfl
    ·exact key
    ·exact key
end PA
open Go Go.AM Go.Proofs TK TR
set_option maxRecDepth 100000
namespace PA
theorem parse_at (ev:Value) (hev:ev=.nilIface∨∃te pe,ev=.iface te pe) (l:Bs) (hok:okL l=true):AMem Tryz.prog 23 [.p (.s (B l))] (hE ev) (vParse (parseF l)) (hE ev):=read_run ev hev l hok
end PA
