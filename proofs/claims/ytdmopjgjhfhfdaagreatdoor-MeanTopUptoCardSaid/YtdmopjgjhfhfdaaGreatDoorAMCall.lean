/- Part of a machine over plain values. No conditions. -/
import Derived.Test.YtdmopjgjhfhfdaaGreatDoorAMSnd9
import Derived.Laws.MakeOwn
set_option linter.all false
set_option maxRecDepth 100000
namespace Go.AM
section
variable {P:Program} {ty:Nat->Option TI} {n:Nat} {o:Oper} {e:Env} {h:Heap} {K:AK}
theorem ji {sz:Nat} {z:List Nat} {e:Env}:∀(n:Nat) (ps:List (Nat×Operand)) (xs:List PV),iV sz z e n ps=some xs->xs.length=ps.length/\(∀x∈xs,x.cells.length=sz)/\
 ∀(j:Nat) (p:Nat×Operand) (x:PV),ps[j]?=some p->xs[j]?=some x->p.1=n+j/\(ev e p.2).tE z=some x
 |n,[],xs,h=>by simp[iV]at h;subst h;simp
 |n,(i,x)::r,xs,h=>by
  simp only[iV]at h;split at h
  ·rename_i v hi hv
   split at h
   ·rename_i l hl hr
    cases h;obtain⟨k1,k2,k3⟩:=ji (n+1) r l hr;have hi:i=n:=Nat.eq_of_beq_eq_true hi;refine⟨by simp[k1],fun x hx=>?_,fun j p x hp hx=>?_⟩
    ·rcases List.mem_cons.1 hx with rfl|hx
     ·exact Nat.eq_of_beq_eq_true hl
     ·exact k2 x hx
    ·cases j with
     |zero=>simp at hp hx;subst hp;subst hx;exact⟨hi,hv⟩
     |succ j=>simp at hp hx;obtain⟨q1,q2⟩:=k3 j p x hp hx;exact⟨by omega,q2⟩
   ·cases h
  ·cases h
theorem ym (hty:bB P ty) {t len:Nat} {parts:List (Nat×Operand)} (ho:o.op=.buildSlice t len ⟨parts⟩) {el:TypeId} {j:TI} {xs:List PV} (hu:P.underlying t=some (.slice el)) (hj:ty el=some j) (hxs:iV j.size j.csz e 0 parts=some xs) (hlen:xs.length=len) (hsm:len*j.size<=16777216) (hs0:0<j.size):
 ∀{e':Env} {h':Heap} {g:Gh} {w:World} {a:Act},(∀t∈slotsOf o,aL e' t=aL e t)->cw g w n a e' h'->∃row:Array Value,(execOp a.eval o).run P w=.ok (.value (.slice (some ⟨w.heap.size,0,none⟩) len len)) (World.push w (.cells row el (0,0)))/\(∀(jj:Nat) (x:PV) (ii:Nat) (y:PV),xs[jj]?=some x->x.cells[ii]?=some y->jj*j.size+ii<len*j.size/\∃v,row[jj*j.size+ii]?=some v/\v.oneCell'=true/\bq (bT g w) v y)/\len*j.size<=row.size:=by
 have hm:∀p∈parts,p.2∈o.op.operands:=fun p hp=>by simp[ho,Op.operands];exact⟨p.1,hp⟩
 obtain⟨k1,k2,k3⟩:=ji 0 parts xs hxs;obtain⟨inf,z,i1,i2,i3,i4,i5,i6⟩:=(hty el j hj).inf;intro e' h' g w a he s
 -- the parts' values
 have hvals:∀(jj:Nat) (p:Nat×Operand) (x:PV),parts[jj]?=some p->xs[jj]?=some x->bq (bT g w) (a.eval p.2) x:=by
  intro jj p x hp hx;obtain⟨_,r⟩:=s.cR he (hm p (List.mem_of_getElem? hp)) rfl;exact lE r (k3 jj p x hp hx).2
 have hsz:∀v∈parts.map (fun p=>a.eval p.2),v.cells.size=j.size:=by
  intro v hv;obtain⟨p,hp,rfl⟩:=List.mem_map.1 hv;obtain⟨jj,hjj⟩:=List.getElem?_of_mem hp;have hlt:jj<xs.length:=by have:=(List.getElem?_eq_some_iff.1 hjj).1;omega
  have:=(oG (hvals jj p xs[jj] hjj (by simp[hlt]))).1;have h2:=k2 xs[jj] (List.getElem_mem hlt);have:(a.eval p.2).cells.size=(a.eval p.2).cells.toList.length:=by simp
  omega
 have hz:z.cells.size=j.size:=by rw[<-i6,<-i5];simp
 have hcells:∃row:Array Value,(execOp a.eval o).run P w=.ok (.value (.slice (some ⟨w.heap.size,0,none⟩) len len)) (World.push w (.cells row el (0,0)))/\
  ∀(jj:Nat) (p:Nat×Operand) (ii:Nat),parts[jj]?=some p->ii<j.size->row[jj*j.size+ii]?=(a.eval p.2).cells[ii]?:=by
  by_cases h0:len=0
  ·subst h0
   have hp0:parts=[]:=List.eq_nil_of_length_eq_zero (by omega);subst hp0;refine⟨#[],?_,by simp⟩;simp[execOp,ho,Instr.buildSlice,run_underlying hu,sizeOf,typeInfo,i1,Instr.fill,newRow];exact congrArg (fun q=>World.push w (.cells q el (0,0))) (by simp)
  ·have hpos:0<len*j.size:=Nat.mul_pos (Nat.pos_of_ne_zero h0) hs0
   obtain⟨row,hr1,hr2,hr3⟩:=Great.fill_dense hs0 (parts.map (fun p=>a.eval p.2)) 0 ((Array.range (len*j.size)).map (z.cells[· % z.cells.size]!)) hsz (by simp;rw[<-k1,hlen];exact Nat.le_refl _)
   have hparts:((parts.map (fun p=>a.eval p.2)).zipIdx 0).map (fun x=>(x.2,x.1))=parts.map fun p=>(p.1,a.eval p.2):=by
    apply List.ext_getElem?
    intro jj;simp only[List.getElem?_map,List.getElem?_zipIdx]
    cases hp:parts[jj]? with
    |none=>simp
    |some p=>
     have hlt:jj<xs.length:=by have:=(List.getElem?_eq_some_iff.1 hp).1;omega
     have:=(k3 jj p xs[jj] hp (by simp[hlt])).1;simp;omega
   rw[hparts]at hr1;refine⟨row,?_,fun jj p ii hp hii=>?_⟩
   ·have:=run_buildSlice (P:=P) w t el len (parts.map fun p=>(p.1,a.eval p.2)).toArray row inf z hu i1 i4 (by rw[i2];omega) (by rw[i2];omega) (by rw[i2];simpa using hr1)
    simp only[execOp,ho,Sem.run_bind,List.map_toArray,this,Result.andThen_ok,Sem.run_pure];rfl
   ·have hjl:jj<parts.length:=(List.getElem?_eq_some_iff.1 hp).1
    obtain⟨e1,e2⟩:=wB (j:=jj) hii
    have hk:jj*j.size+ii<(0+(parts.map (fun p=>a.eval p.2)).length)*j.size:=by
     have:(jj+1)*j.size<=parts.length*j.size:=Nat.mul_le_mul_right _ hjl;rw[Nat.add_mul]at this;simp;omega
    rw[hr3,if_pos ⟨by omega,hk⟩,e1,e2];simp[hp]
 obtain⟨row,hrun,hrow⟩:=hcells;refine⟨row,hrun,fun jj x ii y hx hy=>?_,?_⟩
 ·have hjl:jj<xs.length:=(List.getElem?_eq_some_iff.1 hx).1
  have hil:ii<j.size:=by have:=(List.getElem?_eq_some_iff.1 hy).1;have:=k2 x (List.mem_of_getElem? hx);omega
  have hpl:jj<parts.length:=by omega
  have hpj:parts[jj]?=some parts[jj]:=List.getElem?_eq_getElem hpl;obtain⟨c1,c2,c3⟩:=oG (hvals jj _ x hpj hx);have hlt:ii<(a.eval parts[jj].2).cells.toList.length:=by rw[c1];exact(List.getElem?_eq_some_iff.1 hy).1
  have hcell:row[jj*j.size+ii]?=some (a.eval parts[jj].2).cells.toList[ii]:=by
   rw[hrow jj _ ii hpj hil,<-Array.getElem?_toList];simp only[List.getElem?_eq_getElem hlt]
  refine⟨?_,_,hcell,c2 _ (List.getElem_mem hlt),c3 ii _ y (List.getElem?_eq_getElem hlt) hy⟩;have:(jj+1)*j.size<=xs.length*j.size:=Nat.mul_le_mul_right _ hjl;rw[Nat.add_mul,hlen]at this;omega
 ·by_cases h0:len=0
  ·subst h0;simp
  ·have hpl:len-1<parts.length:=by omega
   have hpj:parts[len-1]?=some parts[len-1]:=List.getElem?_eq_getElem hpl;have hv:=hsz (a.eval parts[len-1].2) (List.mem_map.2 ⟨_,List.getElem_mem hpl,rfl⟩);have:=hrow (len-1) _ (j.size-1) hpj (by omega);have hsome:(a.eval parts[len-1].2).cells[j.size-1]?.isSome=true:=by simp;omega
   rw[<-this]at hsome;simp at hsome
   have e1:(len-1)*j.size+j.size=len*j.size:=by
    rw[<-Nat.succ_mul];congr 1;omega
   omega
theorem tV (hty:bB P ty) (hd:∀d,o.dst=some d->d<n) {t len:Nat} {parts:List (Nat×Operand)} (ho:o.op=.buildSlice t len ⟨parts⟩) (hk:kq ty o e h t len parts K):∃f,K f/\cJ P n o e h f:=by
 have hm:∀p∈parts,p.2∈o.op.operands:=fun p hp=>by simp[ho,Op.operands];exact⟨p.1,hp⟩
 unfold kq at hk;split at hk
 ·rename_i i hi
  split at hk
  ·rename_i el hde
   have hu:=(hty t i hi).und;rw[hde]at hu;split at hk
   ·rename_i j hj
    split at hk
    ·rename_i xs hxs
     split at hk
     ·rename_i hlen hsm hs0
      have hlen:xs.length=len:=Nat.eq_of_beq_eq_true hlen;have hsm:len*j.size<=16777216:=Nat.le_of_ble_eq_true hsm;have hs0:0<j.size:=Nat.pos_of_ne_zero fun q=>by rw[q]at hs0;cases hs0
      obtain⟨k1,k2,k3⟩:=ji 0 parts xs hxs;obtain⟨inf,z,i1,i2,i3,i4,i5,i6⟩:=(hty el j hj).inf;have core:∀{e':Env} {h':Heap} {g:Gh} {w:World} {a:Act},(∀t∈slotsOf o,aL e' t=aL e t)->cw g w n a e' h'->_:=fun he s=>ym hty ho hu hj hxs hlen hsm hs0 he s
      -- what becomes of it
      split at hk
      ·rename_i d hdst
       refine⟨_,hk,fun e' h' he _ g w a s=>?_⟩;obtain⟨row,hrun,hrow,_⟩:=core he s;refine Oper.cp hrun ⟨g.new w.heap.size (len*j.size) none,?_,Ext.push (g:=g) (g':=g.new w.heap.size (len*j.size) none) (w:=w) (ob:=.cells row el (0,0)) (fun b hb=>by simp[Gh.new,Nat.ne_of_lt hb]) (fun a=>gA a) (fun _ _=>rfl)⟩;have s1:=s.xg (.cells row el (0,0)) (len*j.size) none;rw[hdst];refine s1.put (hd d hdst) ?_;have hext:∀{v x},bq (bT g w) v x->bq (bT (g.new w.heap.size (len*j.size) none) (World.push w (.cells row el (0,0)))) v x:=fun r=>r.push (fun b hb=>by simp[Gh.new,Nat.ne_of_lt hb])
       have hS:E9 (bT (g.new w.heap.size (len*j.size) none) (World.push w (.cells row el (0,0)))) (some ⟨w.heap.size,0,none⟩) j.size xs (fun k=>row[k]?.getD undef):=by
        refine⟨k2,fun _=>⟨_,rfl⟩,fun b q _=>by cases q;rfl,fun b jj x ii y q hx hy=>?_⟩;cases q;obtain⟨hk,v,hcell,c2,c3⟩:=hrow jj x ii y hx hy;rw[hcell];refine⟨?_,c2,hext c3⟩;simp only[cO];simp only[Gh.new,if_true,Nat.zero_add];rw[if_pos hk,dB (eJ (w:=w)),hcell];rfl
       have hp:=hS.Ok (cap:=xs.length) (Nat.le_refl _) (fun _=>rfl);rw[<-hlen];rw[<-hlen]at hp;exact .full _ _ j.size xs hs0 hp
      ·rename_i hdst
       refine⟨_,hk,fun e' h' he _ g w a s=>?_⟩;obtain⟨row,hrun,hrow,_⟩:=core he s;refine Oper.cp hrun ⟨g.new w.heap.size (len*j.size) none,?_,Ext.push (g:=g) (g':=g.new w.heap.size (len*j.size) none) (w:=w) (ob:=.cells row el (0,0)) (fun b hb=>by simp[Gh.new,Nat.ne_of_lt hb]) (fun a=>gA a) (fun _ _=>rfl)⟩;rw[hdst];exact s.xg (.cells row el (0,0)) (len*j.size) none
     ·exact hk.elim
    ·exact hk.elim
   ·exact hk.elim
  ·exact hk.elim
 ·exact hk.elim
theorem uJ {e':Env} {h':Heap} {g:Gh} {w:World} {a:Act} (s:cw g w n a e' h') (he:∀t∈slotsOf o,aL e' t=aL e t) {dflt:Int} {b:Option Operand} (hb:∀x,b=some x->x∈o.op.operands) {m:Int}
 (hm:fZ e dflt b=some m):(b=none/\m=dflt)\/∃x k,b=some x/\a.eval x=.int k m:=by
 cases b with
 |none=>simp[fZ]at hm;exact .inl ⟨rfl,hm.symm⟩
 |some x=>
  right
  simp only[fZ]at hm;split at hm
  ·rename_i k m' hx
   cases hm;obtain⟨_,r⟩:=s.cR he (hb x rfl) hx;exact⟨x,k,rfl,r.int⟩
  ·cases hm
theorem run_sliceBound {k:IntKind} {m:Int} {y:Nat} {c:BoundsCode} (h0:0<=m) (h1:m<=y) (w:World):(Instr.sliceBound (.int k m) y c).run P w=.ok m.toNat w:=by
 simp[Instr.sliceBound,asIntOf,h0,h1]
theorem dR {isS:Bool} {len cap:Nat} {lo hi:Option Value} {l u:Int} (hlo:(lo=none/\l=0)\/∃k,lo=some (.int k l)) (hhi:(hi=none/\u=len)\/∃k,hi=some (.int k u)) (h0:0<=l) (h1:l<=u) (h2:u<=cap) (w:World):
 (Instr.sliceBounds isS len cap lo hi none).run P w=.ok (l.toNat,u.toNat,cap) w:=by
 have hu:0<=u:=by omega
 rcases hlo with⟨rfl,rfl⟩|⟨k,rfl⟩<;>rcases hhi with⟨rfl,rfl⟩|⟨k',rfl⟩
 ·simp[Instr.sliceBounds]
 ·simp[Instr.sliceBounds,run_sliceBound hu h2]
 ·have:(l:Int)<=(len:Int):=h1
  simp[Instr.sliceBounds,run_sliceBound h0 this]
 ·have:l<=(u.toNat:Int):=by omega
  simp[Instr.sliceBounds,run_sliceBound hu h2,run_sliceBound h0 this]
theorem bq.sub {M:Mm} {b:Addr} {len cap sz:Nat} {xs:List PV} (r:bq M (.slice (some b) len cap) (.sl sz xs)) {l u:Nat} (h1:l<=u) (h2:u<=xs.length):
 bq M (.slice (some (if cap=l then b else ⟨b.block,b.off+l*sz,none⟩)) (u-l) (cap-l)) (.sl sz ((xs.take u).drop l)):=by
 obtain⟨_,hc,F,hF⟩:=r.Ph;obtain⟨hl,_⟩:=r.Ph;have hlen:((xs.take u).drop l).length=u-l:=by simp;omega
 rw[<-hlen]
 have aF:∀(j:Nat) (x:PV),((xs.take u).drop l)[j]?=some x->xs[l+j]?=some x:=by
  intro j x hj;rw[List.getElem?_drop,List.getElem?_take]at hj;split at hj
  ·exact hj
  ·cases hj
 have hmem:∀x∈(xs.take u).drop l,x∈xs:=fun x hx=>List.mem_of_mem_take (List.mem_of_mem_drop hx);refine .sl _ _ sz _ (fun j i=>F ((l+j)*sz+i)) ?_ (by rw[hlen];omega) (fun x hx=>hF.hz x (hmem x hx)) (fun j x hj i y hi=>?_) (fun j x hj i y hi=>(hF.cell b (l+j) x i y rfl (aF j x hj) hi).2.2)
 ·intro hc0
  split
  ·rename_i q;omega
  ·rfl
 ·have hlt:l<cap:=by
   have:=(List.getElem?_eq_some_iff.1 (aF j x hj)).1;omega
  rw[if_neg (by omega)];obtain⟨q1,q2,_⟩:=hF.cell b (l+j) x i y rfl (aF j x hj) hi;refine⟨?_,q2⟩;rw[<-q1];congr 1;simp only[Nat.add_mul];omega
theorem oo (hty:bB P ty) (hd:∀d,o.dst=some d->d<n) {x:Operand} {t:Nat} {lo hi:Option Operand} (ho:o.op=.slice t x lo hi none) (hk:sx ty o e t (ev e x).copy lo hi K):∃f,K f/\cJ P n o e h f:=by
 have m1:x∈o.op.operands:=by simp[ho,Op.operands]
 have m2:∀y,lo=some y->y∈o.op.operands:=by intro y hy;subst hy;simp[ho,Op.operands]
 have m3:∀y,hi=some y->y∈o.op.operands:=by intro y hy;subst hy;simp[ho,Op.operands]
 have bnd:∀{e':Env} {h':Heap} {g:Gh} {w:World} {a:Act},cw g w n a e' h'->(∀t∈slotsOf o,aL e' t=aL e t)->∀{dflt:Int} {b:Option Operand} {m:Int},(∀x,b=some x->x∈o.op.operands)->fZ e dflt b=some m->
  (b.map a.eval=none/\m=dflt)\/∃k,b.map a.eval=some (.int k m):=by
  intro e' h' g w a s he dflt b m hb hm;rcases uJ s he hb hm with⟨rfl,q⟩|⟨y,k,rfl,q⟩
  ·exact .inl ⟨rfl,q⟩
  ·exact .inr ⟨k,by simp[q]⟩
 unfold sx at hk;split at hk
 ·rename_i i hi'
  have hu:=(hty t i hi').und;split at hk
  ·rename_i el hde
   rw[hde]at hu;split at hk
   ·rename_i j sz xs hj hx
    split at hk
    ·rename_i l u hz hl hu'
     obtain rfl:sz=j.size:=Nat.eq_of_beq_eq_true hz;obtain⟨⟨h0,h1,h2⟩,hk⟩:=hk;refine aI hd hk fun e' h' he g w a s=>?_;obtain⟨_,r1⟩:=s.cR he m1 rfl;have r1:=r1.copy (ow':=none);rw[hx]at r1;have b1:=bnd s he m2 hl;have b2:=bnd s he m3 hu';have hp:=r1.pv;generalize hv:a.eval x=v at hp;have hp':=hp
     cases hp with
     |nil=>
      have hl0:l=0:=by simp at h2;omega
      have hu0:u=0:=by simp at h2;omega
      subst hl0;subst hu0;refine⟨.slice none 0 0,?_,fun d _=>.p _ _ _ (by simpa using bq.nil j.size)⟩;have hb:=dR (P:=P) (isS:=true) (len:=0) (cap:=0) b1 (by rcases b2 with⟨q1,_⟩|q;exact .inl ⟨q1,rfl⟩;exact .inr q) (by omega) (by omega) (by omega) w;simp[execOp,ho,hv,Instr.sliceAt,run_underlying hu,Instr.slice,hb,bG hty hj]
     |sl ad cap _ _ f hs hc=>
      have hb:=dR (P:=P) (isS:=true) (len:=xs.length) (cap:=cap) b1 b2 h0 h1 (by omega) w;refine⟨_,?_,fun d _=>.p _ _ _ (hp'.sub (l:=l.toNat) (u:=u.toNat) (by omega) (by omega))⟩;simp only[execOp,ho,hv,Instr.sliceAt,Sem.run_bind,run_underlying hu,Result.andThen_ok,Instr.slice,Option.map_none,hb,bG hty hj,Sem.run_pure]
      congr 3
      split
      ·rfl
      ·rename_i q;simp[Addr.eK (hs (by omega))]
    ·exact hk.elim
   ·exact hk.elim
  ·rename_i hde
   rw[hde]at hu;split at hk
   ·rename_i y hx
    split at hk
    ·rename_i l u hl hu'
     obtain⟨⟨h0,h1,h2⟩,hk⟩:=hk;refine aI hd hk fun e' h' he g w a s=>?_;obtain⟨_,r1⟩:=s.cR he m1 rfl;have r1:=r1.copy (ow':=none);rw[hx]at r1;have b1:=bnd s he m2 hl;have b2:=bnd s he m3 hu';have hb:=dR (P:=P) (isS:=false) (len:=y.size) (cap:=y.size) b1 b2 h0 h1 h2 w;refine⟨.string (y.extract l.toNat u.toNat),?_,fun d _=>.p _ _ _ (.s _)⟩;simp[execOp,ho,r1.str,Instr.sliceAt,run_underlying hu,Instr.slice,hb]
    ·exact hk.elim
   ·exact hk.elim
  ·exact hk.elim
 ·exact hk.elim
theorem cw.IV {g:Gh} {w:World} {a:Act} {e':Env} {h':Heap} (s:cw g w n a e' h') {b sl d:Nat} (ho:g.own b=some (.slot sl)) (hsl:∀sz zs,aL e' sl≠.so sz zs):cw (g.relabel b (.slot d)) w n a e' h':=by
 refine⟨s.defers,s.size,fun i=>?_,s.heap.relabel ho,fun b2 o2 hb2=>?_⟩
 ·by_cases hi:sl=i
  ·subst hi
   have:=s.env sl
   cases hc:aL e' sl with
   |so sz zs=>exact absurd hc (hsl sz zs)
   |_=>rw[hc]at this;exact(this.bW (ow':=none) (fun _ _ q=>by cases q)).relabel (o':=.slot d) ho (by simp) |>.bW (fun _ _ q=>by cases q)
  ·exact(s.env i).relabel ho (by simp;exact fun q=>hi q.symm)
 ·by_cases hbe:b2=b
  ·subst hbe;exact s.bnd _ _ ho
  ·simp only[Gh.relabel,if_neg hbe]at hb2;exact s.bnd _ _ hb2
theorem Al (hty:bB P ty) (hd:∀d,o.dst=some d->d<n) {st:Nat} {t:Nat} {lo:Option Operand} (ho:o.op=.slice t (.tmp st) lo none none) {sz:Nat} {xs:List PV} (hx:aL e st=.so sz xs) (hk:tX ty o e t st sz xs lo K):∃f,K f/\cJ P n o e h f:=by
 have m2:∀y,lo=some y->y∈o.op.operands:=by intro y hy;subst hy;simp[ho,Op.operands]
 unfold tX at hk;split at hk
 ·rename_i i d hi' hdd
  have hu:=(hty t i hi').und;split at hk
  ·rename_i el hde
   rw[hde]at hu;split at hk
   ·rename_i j hj
    split at hk
    ·rename_i l hz hne hl
     obtain rfl:sz=j.size:=Nat.eq_of_beq_eq_true hz;have hne:d≠st:=fun q=>by rw[q,mj]at hne;cases hne
     obtain⟨⟨h0,h1⟩,hk⟩:=hk;refine⟨_,hk,fun e' h' he _ g w a s=>?_⟩;have hslot:st∈slotsOf o:=by simp[slotsOf,ho,Op.operands]
     have hst:aL e' st=.so j.size xs:=by rw[he st hslot];exact hx
     have r1:=s.env st;rw[hst]at r1;have s1:=s.Ek hst
     have b1:(lo.map a.eval=none/\l=0)\/∃k,lo.map a.eval=some (.int k l):=by
      rcases uJ s he m2 hl with⟨rfl,q⟩|⟨y,k,rfl,q⟩
      ·exact .inl ⟨rfl,q⟩
      ·exact .inr ⟨k,by simp[q]⟩
     have htk:xs.take xs.length=xs:=List.take_length;have hdl:(xs.drop l.toNat).length=xs.length-l.toNat:=by simp
     -- the run
     have hrun:∀(ad:Addr) (cap:Nat),a.eval (.tmp st)=.slice (some ad) xs.length cap->xs.length<=cap->(cap≠0->ad.spot=none)->
      (execOp a.eval o).run P w=.ok (.value (.slice (some (if cap=l.toNat then ad else ⟨ad.block,ad.off+l.toNat*j.size,none⟩)) (xs.length-l.toNat) (cap-l.toNat))) w:=by
      intro ad cap hv hc hs;have hb:=dR (P:=P) (isS:=true) (len:=xs.length) (cap:=cap) (hi:=none) (u:=xs.length) b1 (.inl ⟨rfl,rfl⟩) h0 h1 (by omega) w;simp only[execOp,ho,hv,Instr.sliceAt,Sem.run_bind,run_underlying hu,Result.andThen_ok,Instr.slice,Option.map_none,hb,bG hty hj,Sem.run_pure,Int.toNat_natCast]
      congr 3
      split
      ·rfl
      ·rename_i q;simp[Addr.eK (hs (by omega))]
     have fin:∀(g':Gh) (v':Value),(execOp a.eval o).run P w=.ok (.value v') w->cw g' w n a ((st,.p (.sl j.size xs))::e') h'->Ext g w g' w->aH g' w (aE h') (some (.slot d)) v' (.so j.size (xs.drop l.toNat))->
      o.wp P a w (fun a' w'=>∃g',cw g' w' n a' ([(d,AV.so j.size (xs.drop l.toNat)),(st,AV.p (.sl j.size xs))].reverse++e') (([]:Heap).reverse++h')/\Ext g w g' w') (fun _ _ _=>False):=by
      intro g' v' hr hs' hE hv';refine Oper.cp hr ⟨g',?_,hE⟩;rw[hdd];exact(hs'.put (hd d hdd) hv').uN (fun i=>by simp only[List.reverse_cons,List.reverse_nil,List.nil_append,List.cons_append];exact A6 hne _ _ _ i)
     generalize hval:a.tmps.getD st undef=u at r1;have hval':a.eval (.tmp st)=u:=hval
     cases r1 with
     |full _ ad _ _ hz0 hp=>
      cases ad with
      |none=>
       have hx0:xs=[]:=by
        generalize hq:PV.sl j.size xs=pv at hp;generalize hq2:Value.slice none xs.length xs.length=v at hp
        cases hp with
        |nil=>cases hq;rfl
        |_=>first|(cases hq;done)|(cases hq2;done)
       subst hx0;have hl0:l=0:=by simp at h1;omega
       subst hl0;refine fin g (.slice none 0 0) ?_ s1 (Ext.refl _ _) (.full _ none j.size [] hz0 (.nil _));have hb:=dR (P:=P) (isS:=true) (len:=0) (cap:=0) (hi:=none) (u:=0) b1 (.inl ⟨rfl,rfl⟩) (by omega) (by omega) (by omega) w;simp only[List.length_nil]at hval';simp[execOp,ho,hval',Instr.sliceAt,run_underlying hu,Instr.slice,hb,bG hty hj]
      |some ad=>
       have hp2:=hp.sub (l:=l.toNat) (u:=xs.length) (by omega) (Nat.le_refl _);rw[htk]at hp2;refine fin g _ (hrun ad xs.length hval' (Nat.le_refl _) hp.spot) s1 (Ext.refl _ _) ?_;rw[<-hdl]at hp2 ⊢;exact .full _ _ j.size _ hz0 hp2
     |own _ ad cap _ _ cs E hz0 hp how hpre hb hs=>
      obtain⟨_,hlc,_⟩:=hp.Ph;have hp2:=hp.sub (l:=l.toNat) (u:=xs.length) (by omega) (Nat.le_refl _);rw[htk]at hp2
      by_cases hcl:cap=l.toNat
      ·have hx0:xs.drop l.toNat=[]:=List.drop_eq_nil_of_le (by omega)
       refine fin g _ (hrun ad cap hval' hlc hp.spot) s1 (Ext.refl _ _) ?_;rw[if_pos hcl]at hp2 ⊢;rw[hx0]at hp2 ⊢;have e1:xs.length-l.toNat=([]:List PV).length:=by simp;omega
       have e2:cap-l.toNat=([]:List PV).length:=by simp;omega
       rw[e1,e2]at hp2 ⊢;exact .full _ _ j.size [] hz0 hp2
      ·refine fin (g.relabel ad.block (.slot d)) _ (hrun ad cap hval' hlc hp.spot) (s1.IV how (fun sz zs q=>by rw[bA]at q;cases q)) (Ext.relabel how) ?_
       rw[if_neg hcl]at hp2 ⊢;rw[<-hdl]at hp2 ⊢;refine .own (.slot d) ⟨ad.block,ad.off+l.toNat*j.size,none⟩ (cap-l.toNat) j.size (xs.drop l.toNat) cs E hz0 hp2 (by simp[Gh.relabel]) ?_ hb ?_
       ·show g.pre ad.block=ad.off+l.toNat*j.size+(xs.drop l.toNat).length*j.size
        rw[hpre,hdl,Nat.add_assoc,<-Nat.add_mul];congr 2;omega
       ·show ad.off+l.toNat*j.size+(cap-l.toNat)*j.size<=cs.size
        rw[Nat.add_assoc,<-Nat.add_mul,show l.toNat+(cap-l.toNat)=cap by omega];exact hs
    ·exact hk.elim
   ·exact hk.elim
  ·exact hk.elim
 ·exact hk.elim
theorem As (hty:bB P ty) (hd:∀d,o.dst=some d->d<n) {st:Nat} {t l:Nat} {u:Operand} (ho:o.op=.slice t (.tmp st) none (some u) none) (hx:aL e st=.ar l) (hk:BE ty o e h t l u K):∃f,K f/\cJ P n o e h f:=by
 have m1:(Operand.tmp st)∈o.op.operands:=by simp[ho,Op.operands]
 have m3:u∈o.op.operands:=by simp[ho,Op.operands]
 unfold BE at hk;split at hk
 ·rename_i i hi'
  have hu:=(hty t i hi').und;split at hk
  ·rename_i el hde
   rw[hde]at hu;split at hk
   ·rename_i j xs kk k hj hh huu
    split at hk
    ·rename_i hz
     obtain⟨hkx,hk⟩:=hk;have hz1:j.size=1:=Nat.eq_of_beq_eq_true hz;refine dD hd hk fun e' h' he hl g w a s=>?_;obtain⟨_,r1⟩:=s.cR he m1 (show Go.AM.ev e (.tmp st)=.ar l from hx);obtain⟨_,ru⟩:=s.cR he m3 huu;have hl0:aF h' l=some (.arr xs):=hl.trans hh
     have hn:∃(vs:Array Value) (E:TypeId),w.heap[g.ρ l]?=some (.cells vs E (0,0))/\vs.size=xs.length:=by
      cases s.heap.obj l _ hl0 with
      |arr _ vs E hb hlen _ _=>exact⟨vs,E,hb,hlen⟩
     generalize hval:a.eval (.tmp st)=v at r1
     cases r1 with
     |ar _ _ m hdm hn'=>
      have hm:m=xs.length:=by
       obtain⟨vs,E,q1,q2⟩:=hn;obtain⟨vs',E',q3,q4⟩:=hn';rw[q1]at q3;cases q3;omega
      subst hm;subst hkx;have hb:=dR (P:=P) (isS:=true) (len:=xs.length) (cap:=xs.length) (lo:=none) (hi:=some (a.eval u)) (l:=0) (u:=(xs.length:Int)) (.inl ⟨rfl,rfl⟩) (.inr ⟨kk,by rw[ru.int]⟩) (by omega) (by omega) (by omega) w;refine⟨.slice (some ⟨g.ρ l,0,none⟩) xs.length xs.length,?_,fun d _=>.ar _ l xs.length hdm hn'⟩;simp only[execOp,ho,hval,Instr.sliceAt,Sem.run_bind,run_underlying hu,Result.andThen_ok,Instr.slice,Option.map_none,Option.map_some,hb,bG hty hj,Sem.run_pure]
      congr 3
      by_cases hc0:xs.length=0
      ·simp[hc0]
      ·simp[Addr.add_plain,hc0]
    ·exact hk.elim
   ·exact hk.elim
  ·exact hk.elim
 ·exact hk.elim
end
open MapKept
section
variable {P:Program} {ty:Nat->Option TI} {n:Nat} {o:Oper} {e:Env} {h:Heap} {K:AK}
theorem mU.push {es:Array MapEntry} {c:Nat} (h:mU es c) {k v:Value}:mU (es.push { key:=k,val:=v,born:=c }) (c+1):=by
 refine⟨by simp[h.1],fun j e he=>?_⟩;rw[Array.getElem?_push]at he;split at he
 ·rename_i hj;cases he;rw[hj];exact h.1
 ·exact h.2 j e he
theorem mU.modify {es:Array MapEntry} {c i:Nat} (h:mU es c) {k v:Value}:mU (es.modify i fun e=>{ e with key:=k,val:=v }) c:=by
 refine⟨by simp[h.1],fun j e he=>?_⟩;rw[Array.getElem?_modify]at he;split at he
 ·cases hq:es[j]? with
  |none=>simp[hq]at he
  |some e0=>simp[hq]at he;subst he;exact h.2 j e0 hq
 ·exact h.2 j e he
theorem tO {M:Mm} {d:TypeDesc} {kd:KD} (h1:Mf d=some kd) {v:Value} {x:PV} (r:bq M v x) (h2:u9 x=some kd):IsKey d v:=by
 cases d<;>simp[Mf]at h1<;>subst h1<;>cases r<;>simp_all [u9,IsKey]
theorem KY {M:Mm} {kd:KD} {v u:Value} {x y:PV} (r1:bq M v x) (r2:bq M u y) (h1:u9 x=some kd) (h2:u9 y=some kd):uF x y=true↔v=u:=by
 cases r1<;>simp[u9]at h1<;>subst h1<;>cases r2<;>simp_all [u9,uF,bytes_beq]
theorem x7 {M:Mm} {d:TypeDesc} {kd:KD} (hd:Mf d=some kd) {k:Value} {kp:PV} (rk:bq M k kp) (hk:u9 kp=some kd) (nv:PV):∀(es:List MapEntry) (xs:List (PV×PV)) (i:Nat),iG M es xs->(∀x∈xs,u9 x.1=some kd)->
 (kg kp xs=none/\Instr.findNow d k es i=some none/\td kp nv xs=xs++[(kp,nv)])\/∃(j:Nat) (en:MapEntry) (x:PV×PV),Instr.findNow d k es i=some (some (i+j,en.val))/\es[j]?=some en/\xs[j]?=some x/\kg kp xs=some x.2/\en.key=k/\td kp nv xs=xs.set j (kp,nv)
 | [],xs,i,hr,_=>by
   have:xs=[]:=List.eq_nil_of_length_eq_zero (by simpa using hr.1.symm);subst this;exact .inl ⟨rfl,rfl,rfl⟩
 |en::es,[],i,hr,_=>by have:=hr.1;simp at this
 |en::es,x::xs,i,hr,hx=>by
  obtain⟨p1,p2⟩:=hr.2 0 en x rfl rfl;have hkx:=hx x (by simp);have ik:=tO hd rk hk;have ie:=tO hd p1 hkx;obtain⟨r,hr1,hr2⟩:=sameNow_of_keys ik ie;have hpv:=KY rk p1 hk hkx;obtain⟨xk,xv⟩:=x;have htail:iG M es xs:=⟨by have:=hr.1;simpa using this,fun j e' x' h1 h2=>hr.2 (j+1) e' x' (by simpa using h1) (by simpa using h2)⟩
  cases r with
  |true=>
   have hkk:=hr2.1 rfl;refine .inr ⟨0,en,(xk,xv),by simp[Instr.findNow,hr1],rfl,rfl,?_,hkk.symm,?_⟩
   ·simp[kg,hpv.2 hkk]
   ·simp[td,hpv.2 hkk]
  |false=>
   have hne:uF kp xk=false:=by
    cases hq:uF kp xk with
    |false=>rfl
    |true=>have:=hr2.2 (hpv.1 hq);cases this
   rcases x7 hd rk hk nv es xs (i+1) htail (fun x hx'=>hx x (by simp[hx'])) with⟨q1,q2,q3⟩|⟨j,e',x',q1,q2,q3,q4,q5,q6⟩
   ·exact .inl ⟨by simp[kg,hne,q1],by simp[Instr.findNow,hr1,q2],by simp[td,hne,q3]⟩
   ·exact .inr ⟨j+1,e',x',by simp[Instr.findNow,hr1,q1];omega,by simpa using q2,by simpa using q3,by simp[kg,hne,q4],q5,by simp[td,hne,q6]⟩
theorem qJ (hty:bB P ty) {t:Nat} {i:TI} (hi:ty t=some i) {z:PV} (hz:zb i=some z) (M:Mm) (w:World):∃v,(zeroValue t).run P w=.ok v w/\bq M v z/\(dA i.desc=false->i.zero=[v]\/i.size≠1):=by
 obtain⟨inf,zv,h1,h2,h3,h4,h5,h6⟩:=(hty t i hi).inf;have one:=(hty t i hi).one
 let g:Gh:=⟨fun _=>0,fun _=>none,fun _=>0,fun _ _=>none,fun _=>none⟩
 have lift:∀{v:Value} {x:PV},bq (bT g w) v x->bq M v x:=fun r=>r.mono (fun b o' v' hv=>by simp[bT,g]at hv) (fun _ _ _ hv=>by simp[bT,g]at hv);have hrun:(zeroValue t).run P w=.ok zv w:=by simp[zeroValue,typeInfo,h1,h4]
 refine⟨zv,hrun,?_,?_⟩
 ·unfold zb at hz
  split at hz
  ·rename_i hag
   split at hz
   ·rename_i l hl
    cases hz;obtain⟨k1,k2⟩:=jv (g:=g) (w:=w) (dom:=fun _=>False) _ _ _ hl
    have hagg:∃cs,zv=.agg cs:=by
     have hinf:=(hty t i hi).agz hag;obtain⟨inf',zv',e1,e2,e3⟩:=hinf;rw[h1]at e1;cases e1;rw[h4]at e2;cases e2;exact e3
    obtain⟨cs,rfl⟩:=hagg;simp only[Value.cells]at h5;have:=bq.agg (M:=M) cs.toList l (by rw[k1,ij,h5]) (fun v hv=>one v (by rw[<-h5];exact hv)) (fun j v x hv hx=>lift (k2 j v none (jS v) x (by rw[jw,<-h5,hv];rfl) hx (iT v)));simpa using this
   ·cases hz
  ·rename_i hag
   split at hz
   ·rename_i v r hzz
    have hzv:zv=v:=by
     obtain⟨inf',zv',e1,e2,e3⟩:=(hty t i hi).noz hag;rw[h1]at e1;cases e1;rw[h4]at e2;cases e2;rw[e3]at h5;rw[hzz]at h5;simp at h5;exact h5.1
    rw[hzv];exact lift (rz (iT (g:=g) (w:=w) (dom:=fun _=>False) (ow:=none) v) hz)
   ·cases hz
 ·intro hag
  obtain⟨inf',zv',e1,e2,e3⟩:=(hty t i hi).noz hag;rw[h1]at e1;cases e1;rw[h4]at e2;cases e2;rw[e3]at h5;exact .inl (by rw[<-h5])
def World.fU (w:World) (b:Nat) (es:Array MapEntry) (c:Nat):World:={ w with heap:=w.heap.setIfInBounds b (.map es c) }
theorem fy {w:World} {b:Nat} {es:Array MapEntry} {c b':Nat} (h:b'≠b):(World.fU w b es c).heap[b']?=w.heap[b']?:=by
 simp[World.fU,Ne.symm h]
theorem pR {w:World} {b:Nat} {es es':Array MapEntry} {c c':Nat} (hb:w.heap[b]?=some (.map es' c')):(World.fU w b es c).heap[b]?=some (.map es c):=by
 have hlt:b<w.heap.size:=(Array.getElem?_eq_some_iff.1 hb).1;simp[World.fU,hlt]
theorem wj {w:World} {b:Nat} {es:Array MapEntry} {c:Nat}:(World.fU w b es c).heap.size=w.heap.size:=by simp[World.fU]
theorem lZ {g:Gh} {w:World} {b:Nat} {es es':Array MapEntry} {c c':Nat} (hb:w.heap[b]?=some (.map es' c')) {b1 o1:Nat} {v:Value} (hv:bT g w b1 o1=some v):bT g (World.fU w b es c) b1 o1=some v:=by
 have hne:b1≠b:=by
  intro q;subst q;have:=kF hv;simp[World.cell?,hb]at this
 simp only[cO]at hv ⊢;simp only[World.cell?,fy hne]at hv ⊢;exact hv
theorem Ag {w:World} {b:Nat} {es es':Array MapEntry} {c c':Nat} (hb:w.heap[b]?=some (.map es' c')) (a:Addr):(World.fU w b es c).frozen? a=w.frozen? a:=by
 by_cases q:a.block=b
 ·subst q;simp[World.frozen?,pR hb,hb]
 ·simp[World.frozen?,fy q]
end
end Go.AM
namespace Go.AM
section
variable {P:Program} {ty:Nat->Option TI} {n:Nat} {o:Oper} {e:Env} {h:Heap} {K:AK}
theorem CL (hty:bB P ty) (hd:∀d,o.dst=some d->d<n) {t:Nat} {x ix:Operand} (ho:o.op=.index t x ix) (hk:zL ty o t (ev e x) (ev e ix) K):∃f,K f/\cJ P n o e h f:=by
 have m1:x∈o.op.operands:=by simp[ho,Op.operands]
 have m2:ix∈o.op.operands:=by simp[ho,Op.operands]
 unfold zL at hk;split at hk
 ·rename_i i hi
  split at hk
  ·rename_i s0 k m hde hx hix
   have hu:=(hty t i hi).und;rw[hde]at hu;obtain⟨_,⟨h0,hlt⟩,rfl,hk⟩:=hk;refine aI hd hk fun e' h' he g w a s=>?_;obtain⟨_,r1⟩:=s.cR he m1 hx;obtain⟨_,r2⟩:=s.cR he m2 hix;refine⟨_,?_,fun d _=>.p _ _ _ (.i _ _)⟩;have hlt':m.toNat<s0.size:=by omega
   have hg:s0[m.toNat]?=some s0[m.toNat]:=getElem?_pos s0 m.toNat hlt';simp[execOp,ho,Instr.index,r1.str,r2.int,asIntOf,run_underlying hu,h0,hg]
  ·exact hk.elim
 ·exact hk.elim
theorem Gn (hd:∀d,o.dst=some d->d<n) {x y:Operand} {ts:Array TypeId} (ho:o.op=.call { callee:=.builtin .min,args:=⟨[x,y]⟩,argTypes:=ts })
 (hk:match ev e x,ev e y with
 |.p (.i k a),.p (.i k' b)=>match decide (k=k') with
  |true=>ret o (.p (.i k (if b<a then b else a))) K
  |false=>ah "min"
 |_,_=>ah "min"):∃f,K f/\cJ P n o e h f:=by
 have m1:x∈o.op.operands:=by simp[ho,Op.operands,Call.operands]
 have m2:y∈o.op.operands:=by simp[ho,Op.operands,Call.operands]
 split at hk
 ·rename_i k a1 k' b1 hx hy
  split at hk
  ·rename_i hkk
   have hkk:=of_decide_eq_true hkk;subst hkk;refine aI hd hk fun e' h' he g w a s=>?_;obtain⟨_,r1⟩:=s.cR he m1 hx;obtain⟨_,r2⟩:=s.cR he m2 hy;refine⟨_,?_,fun d _=>.p _ _ _ (.i _ _)⟩;obtain⟨cs,hcs⟩:=cm (P:=P) ho a w;rw[hcs];simp[builtin,Builtin.min_,r1.int,r2.int,Builtin.min2]
  ·exact hk.elim
 ·exact hk.elim
theorem FG (hd:∀d,o.dst=some d->d<n) {x y:Operand} {ts:Array TypeId} (ho:o.op=.call { callee:=.builtin .max,args:=⟨[x,y]⟩,argTypes:=ts })
 (hk:match ev e x,ev e y with
 |.p (.i k a),.p (.i k' b)=>match decide (k=k') with
  |true=>ret o (.p (.i k (if a<b then b else a))) K
  |false=>ah "max"
 |_,_=>ah "max"):∃f,K f/\cJ P n o e h f:=by
 have m1:x∈o.op.operands:=by simp[ho,Op.operands,Call.operands]
 have m2:y∈o.op.operands:=by simp[ho,Op.operands,Call.operands]
 split at hk
 ·rename_i k a1 k' b1 hx hy
  split at hk
  ·rename_i hkk
   have hkk:=of_decide_eq_true hkk;subst hkk;refine aI hd hk fun e' h' he g w a s=>?_;obtain⟨_,r1⟩:=s.cR he m1 hx;obtain⟨_,r2⟩:=s.cR he m2 hy;refine⟨_,?_,fun d _=>.p _ _ _ (.i _ _)⟩;obtain⟨cs,hcs⟩:=cm (P:=P) ho a w;rw[hcs];simp[builtin,Builtin.max_,r1.int,r2.int,Builtin.max2]
  ·exact hk.elim
 ·exact hk.elim
theorem D4 (hd:∀d,o.dst=some d->d<n) {x y z:Operand} {ts:Array TypeId} (ho:o.op=.call { callee:=.builtin .max,args:=⟨[x,y,z]⟩,argTypes:=ts })
 (hk:match ev e x,ev e y,ev e z with
 |.p (.i k a),.p (.i k' b),.p (.i k2 c)=>match decide (k=k'),decide (k=k2) with
  |true,true=>ret o (.p (.i k (imax (imax a b) c))) K
  |_,_=>ah "max"
 |_,_,_=>ah "max"):∃f,K f/\cJ P n o e h f:=by
 have m1:x∈o.op.operands:=by simp[ho,Op.operands,Call.operands]
 have m2:y∈o.op.operands:=by simp[ho,Op.operands,Call.operands]
 have m3:z∈o.op.operands:=by simp[ho,Op.operands,Call.operands]
 split at hk
 ·rename_i k a1 k' b1 k2 c1 hx hy hz
  split at hk
  ·rename_i hkk hkk2
   have hkk:=of_decide_eq_true hkk;have hkk2:=of_decide_eq_true hkk2;subst hkk;subst hkk2;refine aI hd hk fun e' h' he g w a s=>?_;obtain⟨_,r1⟩:=s.cR he m1 hx;obtain⟨_,r2⟩:=s.cR he m2 hy;obtain⟨_,r3⟩:=s.cR he m3 hz;refine⟨_,?_,fun d _=>.p _ _ _ (.i _ _)⟩;obtain⟨cs,hcs⟩:=cm (P:=P) ho a w;rw[hcs];simp only[builtin,Builtin.max_,imax];simp[r1.int,r2.int,r3.int,Builtin.max2]
   by_cases q:a1<b1<;>simp[q]
  ·exact hk.elim
 ·exact hk.elim
theorem vN (hty:bB P ty) (hd:∀d,o.dst=some d->d<n) {t:Nat} {x y:Operand} (ho:o.op=.makeSlice t x y) (hk:sy ty o h t (ev e x) (ev e y) K):∃f,K f/\cJ P n o e h f:=by
 have m1:x∈o.op.operands:=by simp[ho,Op.operands]
 have m2:y∈o.op.operands:=by simp[ho,Op.operands]
 unfold sy at hk;split at hk
 ·rename_i i d hi hdd
  split at hk
  ·rename_i el hde
   have hu:=(hty t i hi).und;rw[hde]at hu;split at hk
   ·rename_i j hj
    split at hk
    ·rename_i z k1 x1 k2 y1 hz hx hy hfr hag hby
     have hby:j.bytes≠0:=fun q=>by rw[q]at hby;cases hby
     obtain⟨⟨rfl,h0,hmax⟩,hk⟩:=hk;obtain⟨hrd,hdb⟩:=oK hfr;refine⟨_,hk,fun e' h' he hl g w a s=>?_⟩;have hl0:aF h' d=none:=by rw[hl d (by simp)];exact hrd
     obtain⟨_,r1⟩:=s.cR he m1 hx;obtain⟨_,r2⟩:=s.cR he m2 hy;obtain⟨m,rfl⟩:∃m:Nat,x1=m:=⟨x1.toNat,by omega⟩
     have hmb:m*j.bytes<=140737488355328:=by omega
     have hm1:m<=140737488355328:=Nat.le_trans (Nat.le_mul_of_pos_right m (Nat.pos_of_ne_zero hby)) hmb;obtain⟨zv,z1,z2,z3⟩:=qJ hty hj hz (bT g w) w;obtain⟨inf,zv',f1,f2,f3,f4,f5,f6⟩:=(hty el j hj).inf
     have hzv:zv'=zv:=by
      have:(zeroValue el).run P w=.ok zv' w:=by simp[zeroValue,typeInfo,f1,f4]
      rw[z1]at this;cases this;rfl
     subst hzv
     have hnag:zv'.cells=#[zv']:=by
      obtain⟨inf',z',e1,e2,e3⟩:=(hty el j hj).noz hag;rw[f1]at e1;cases e1;rw[f4]at e2;cases e2;exact e3
     have hs1:inf.size=1:=by rw[f2,<-f6,<-f5,hnag];rfl
     have hone:zv'.oneCell'=true:=by
      have:=(hty el j hj).one zv' (by rw[<-f5,hnag];simp);exact this
     have hr:(execOp a.eval o).run P w=.ok (.value (.slice (some ⟨w.heap.size,0,none⟩) m m)) (World.push w (.cells (Array.replicate m zv') el (0,0))):=by
      have hbi:(inf.bytes:Int)*(m:Int)<=281474976710656:=by rw[f3,Int.mul_comm];omega
      have hmk:=run_make (P:=P) w t el inf zv' hu f1 f4 k1 k2 m m (by omega) (by omega) hbi (by omega)
      have hcells:madeCells zv'.cells ((m:Int).toNat*inf.size)=Array.replicate m zv':=by
       rw[hs1,hnag]
       apply Array.ext
       ·simp[madeCells]
       ·intro q q1 q2
        simp[madeCells,Nat.mod_one]
      rw[hcells]at hmk;simp only[execOp,ho,r1.int,r2.int,Sem.run_bind,hmk,Result.andThen_ok,Sem.run_pure];simp only[Int.toNat_natCast];rfl
     refine Oper.cp hr ⟨g.newObj w.heap.size d,?_,Ext.push (fun b hb=>by simp[Gh.newObj,Nat.ne_of_lt hb]) (fun a=>gA a) (fun l hl=>Db hdb l hl)⟩;rw[hdd];simp only[List.reverse_cons,List.reverse_nil,List.nil_append,List.cons_append];have hob:(World.push w (.cells (Array.replicate m zv') el (0,0))).heap[(g.newObj w.heap.size d).ρ d]?=some (.cells (Array.replicate m zv') el (0,0)):=by simp[Gh.newObj,eJ]
     have s':=s.Iq hl0 (.cells (Array.replicate m zv') el (0,0)) (.arr (List.replicate m z)) (fun dom' hdm up=>.arr (List.replicate m z) (Array.replicate m zv') el hob (by simp) (fun q v y q1 q2=>by
      have e1:v=zv':=by rw[Array.getElem?_replicate]at q1;split at q1<;>simp_all
      have e2:y=z:=by rw[List.getElem?_replicate]at q2;split at q2<;>simp_all
      subst e1;subst e2;exact z2.push (fun b hb=>by simp[Gh.newObj,Nat.ne_of_lt hb])) (fun v hv=>by
      have e1:v=zv':=by simp at hv;exact hv.2
      subst e1;exact hone))
     rw[show((m:Int)).toNat=m by omega];refine s'.put (hd d hdd) ?_;have:w.heap.size=(g.newObj w.heap.size d).ρ d:=by simp[Gh.newObj]
     conv=>arg 5;rw[this]
     exact .ar _ _ _ (by simp[aE,aQ]) ⟨_,_,hob,by simp⟩
    ·exact hk.elim
   ·exact hk.elim
  ·exact hk.elim
 ·exact hk.elim
end
mutual
def AV.within (d:Nat->Bool):AV->Bool
 |.agg cs=>AV.dH d cs
 |.cI cs=>AV.dH d cs
 |.fn _ a b=>AV.dH d a&&AV.dH d b
 |.ptr l _=>d l
 |.ar l=>d l
 |.ap l _=>d l
 |_=>true
def AV.dH (d:Nat->Bool):List AV->Bool
 | []=>true
 |v::r=>AV.within d v&&AV.dH d r
end
theorem bZ (d:Nat->Bool):∀(xs:List AV),AV.dH d xs=true->∀(j:Nat) (x:AV),xs[j]?=some x->x.within d=true
 | [],_,j,x,hx=>by simp at hx
 |y::r,h,j,x,hx=>by
  simp only[AV.dH,Bool.and_eq_true]at h
  cases j with
  |zero=>simp at hx;subst hx;exact h.1
  |succ j=>simp at hx;exact bZ d r h.2 j x hx
theorem aH.within {g:Gh} {w:World} {dom dom':Nat->Prop} {d:Nat->Bool} (hd:∀l,d l=true->dom' l) {ow:Option bg} {v:Value} {x:AV} (r:aH g w dom ow v x) (hx:x.within d=true):aH g w dom' ow v x:=by
 induction r with
 |top=>exact .top _ _
 |p _ _ _ h=>exact .p _ _ _ h
 |c _ _ h1=>exact .c _ _ h1
 |cx=>exact .cx _
 |es _ a cap sz hs=>exact .es _ a cap sz hs
 |full _ a sz xs hz h=>exact .full _ a sz xs hz h
 |own o a cap sz xs cs E hz h ho hp hb hs=>exact .own o a cap sz xs cs E hz h ho hp hb hs
 |ptr _ l off h=>exact .ptr _ l off (hd l (by simpa[AV.within] using hx))
 |vp _ a cs f hs hm hxx=>exact .vp _ a cs f hs hm hxx
 |agg _ vs cs hl h1 _ ih=>exact .agg _ vs cs hl h1 (fun j v c q1 q2=>ih j v c q1 q2 (bZ d cs (by simpa[AV.within] using hx) j c q2))
 |cI _ vs cs hl _ ih=>exact .cI _ vs cs hl (fun j v c q1 q2=>ih j v c q1 q2 (bZ d cs (by simpa[AV.within] using hx) j c q2))
 |ar _ l m h hn=>exact .ar _ l m (hd l (by simpa[AV.within] using hx)) hn
 |ap _ l i h=>exact .ap _ l i (hd l (by simpa[AV.within] using hx))
 |wM _ b v h=>exact .wM _ b v h
 |fn _ f fs cs first caps h1 h2 _ _ ih1 ih2=>
  have hx:AV.dH d first=true/\AV.dH d caps=true:=by simpa[AV.within] using hx
  exact .fn _ f fs cs first caps h1 h2 (fun j v c q1 q2=>ih1 j v c q1 q2 (bZ d first hx.1 j c q2)) (fun j v c q1 q2=>ih2 j v c q1 q2 (bZ d caps hx.2 j c q2))
def bu.within (d:Nat->Bool):bu->Bool
 |.cells cs=>AV.dH d cs
 |_=>true
def aW (l:List Nat) (i:Nat):Bool:=match l with
 | []=>false
 |x::r=>match Nat.beq x i with|true=>true|false=>aW r i
theorem jf:∀(l:List Nat) (i:Nat),aW l i=true->i∈l
 | [],i,h=>by simp[aW]at h
 |x::r,i,h=>by
  simp only[aW]at h;split at h
  ·rename_i q;have:=Nat.eq_of_beq_eq_true q;simp[this]
  ·exact List.mem_cons_of_mem _ (jf r i h)
section
variable {P:Program} {ty:Nat->Option TI} {n:Nat} {o:Oper} {e:Env} {h:Heap} {K:AK}
def mG (P:Program) (f:Nat):Prop:=∃fn c,P.funcs[f]?=some fn/\fn.body=some c/\(fn.name== "runtime.NumGoroutine")=false
def aU (P:Program) (f:Nat) (args:List AV) (r:AV):Prop:=
 mG P f/\∀(g:Gh) (w:World) (vs:List Value),(∀b,g.own b=none)->(∀q,g.sown q=none)->vs.length=args.length->(∀(j:Nat) (v:Value) (x:AV),vs[j]?=some v->args[j]?=some x->aH g w (fun _=>False) none v x)->
  Calls P f vs.toArray w fun en w'=>∃v g',en=.returned v/\aH g' w' (fun _=>False) (some .ret) v r/\Ext g w g' w'
theorem lB:∀(xs:List AV),AV.pJ xs=true->∀(j:Nat) (x:AV),xs[j]?=some x->x.free=true
 | [],_,j,x,hx=>by simp at hx
 |y::r,h,j,x,hx=>by
  simp only[AV.pJ,Bool.and_eq_true]at h
  cases j with
  |zero=>simp at hx;subst hx;exact h.1
  |succ j=>simp at hx;exact lB r h.2 j x hx
theorem aH.KQ {g:Gh} {w:World} {dom dom':Nat->Prop} {ow:Option bg} {v:Value} {x:AV} (r:aH g w dom ow v x) (hx:x.free=true) (own':Nat->Option bg) (ow':Option bg) (sw':Nat->Option Nat:=g.sown):
 aH { g with own:=own',sown:=sw' } w dom' ow' v x:=by
 induction r generalizing ow' with
 |top=>exact .top _ _
 |p _ _ _ h=>exact .p _ _ _ h
 |c _ _ h1=>exact .c _ _ h1
 |cx=>exact .cx _
 |es _ a cap sz hs=>exact .es _ a cap sz hs
 |full=>simp[AV.free]at hx
 |own=>simp[AV.free]at hx
 |ptr=>simp[AV.free]at hx
 |vp _ a cs f hs hm hxx=>exact .vp _ a cs f hs hm hxx
 |agg _ vs cs hl h1 _ ih=>exact .agg _ vs cs hl h1 (fun j v c q1 q2=>ih j v c q1 q2 (lB cs (by simpa[AV.free] using hx) j c q2) none)
 |cI _ vs cs hl _ ih=>exact .cI _ vs cs hl (fun j v c q1 q2=>ih j v c q1 q2 (lB cs (by simpa[AV.free] using hx) j c q2) none)
 |ar=>simp[AV.free]at hx
 |ap=>simp[AV.free]at hx
 |wM _ b v h=>exact .wM _ b v h
 |fn _ f fs cs first caps h1 h2 _ _ ih1 ih2=>
  have hx:AV.pJ first=true/\AV.pJ caps=true:=by simpa[AV.free] using hx
  exact .fn _ f fs cs first caps h1 h2 (fun j v c q1 q2=>ih1 j v c q1 q2 (lB first hx.1 j c q2) none) (fun j v c q1 q2=>ih2 j v c q1 q2 (lB caps hx.2 j c q2) none)
theorem cw.called {g g':Gh} {w w':World} {a:Act} {e:Env} {h:Heap} (s:cw g w n a e h) (hx:Ext { g with own:=fun _=>none,sown:=fun _=>none } w g' w') (d:Nat):
 cw { pre:=g'.pre,own:=fun b=>if b<w.heap.size then g.own b else if b<w'.heap.size/\g'.own b=some .ret then some (.slot d) else none,ρ:=g.ρ,σ:=g'.σ,sown:=g.sown } w' n a e h/\
 Ext g w { pre:=g'.pre,own:=fun b=>if b<w.heap.size then g.own b else if b<w'.heap.size/\g'.own b=some .ret then some (.slot d) else none,ρ:=g.ρ,σ:=g'.σ,sown:=g.sown } w'/\
 ∀v r,aH g' w' (fun _=>False) (some .ret) v r->aH { pre:=g'.pre,own:=fun b=>if b<w.heap.size then g.own b else if b<w'.heap.size/\g'.own b=some .ret then some (.slot d) else none,ρ:=g.ρ,σ:=g'.σ,sown:=g.sown } w' (aE h) (some (.slot d)) v r:=by
 generalize hG:({ pre:=g'.pre,own:=fun b=>if b<w.heap.size then g.own b else if b<w'.heap.size/\g'.own b=some .ret then some (.slot d) else none,ρ:=g.ρ,σ:=g'.σ,sown:=g.sown }:Gh)=G;have Gpre:G.pre=g'.pre:=by rw[<-hG]
 have Gρ:G.ρ=g.ρ:=by rw[<-hG]
 have Gσ:G.σ=g'.σ:=by rw[<-hG]
 have Gsown:G.sown=g.sown:=by rw[<-hG]
 have hsσ:∀s k a,g.σ s k=some a->G.σ s k=some a:=fun s k a q=>by rw[Gσ];exact hx.uC.1 s k a q
 have Gold:∀b,b<w.heap.size->G.own b=g.own b:=fun b hb=>by rw[<-hG];simp[hb]
 have Gnew:∀b,¬b<w.heap.size->G.own b=if b<w'.heap.size/\g'.own b=some .ret then some (.slot d) else none:=fun b hb=>by rw[<-hG];simp[hb]
 have kept:∀b,b<w.heap.size->w'.heap[b]?=w.heap[b]?/\G.pre b=g.pre b:=fun b hb=>by
  obtain⟨q1,q2,_⟩:=hx.kept b hb rfl;exact⟨q1,by rw[Gpre];exact q2⟩
 have himm:∀b k v,bT g w b k=some v->bT G w' b k=some v:=fun b k v hv=>by
  have:=hx.bT b k v hv;simp only[cO]at this ⊢;rw[Gpre];exact this
 have up:∀{ow v x},aH g w (aE h) ow v x->aH G w' (aE h) ow v x:=fun r=>
  r.keep himm (fun l hl=>⟨hl,by rw[Gρ]⟩) (fun l cs E hl hb=>⟨cs,E,by rw[(kept _ (oh hb)).1];exact hb,rfl⟩)
   (fun o b _ ho=>by have hb:=s.bnd b o ho;exact⟨(Gold b hb).trans ho,(kept b hb).2,(kept b hb).1⟩) (hsg:=hsσ)
 refine⟨⟨s.defers,s.size,fun i=>up (s.env i),⟨fun l x hxl=>?_,fun l x hxl hq=>?_,fun l x hxl hq=>?_⟩,fun b o2 hb=>?_⟩,⟨hx.size,hx.os,hx.out,himm,fun b hb ho=>⟨(kept b hb).1,(kept b hb).2,(Gold b hb).trans ho⟩,⟨hsσ,Gsown,fun s q k=>by rw[Gσ];exact hx.uC.2.2 s rfl k⟩,hx.frz',fun _ _=>by rw[Gρ],hx.siz⟩,fun v r hr=>?_⟩
 ·have eo:∀{ob},w.heap[g.ρ l]?=some ob->w'.heap[G.ρ l]?=some ob:=fun hb=>by rw[Gρ,(kept _ (oh hb)).1];exact hb
  cases s.heap.obj l x hxl with
  |cells cs vs E hb hl hx' h1=>exact .cells cs vs E (eo hb) hl (fun j v c q1 q2=>up (hx' j v c q1 q2)) h1
  |arr xs vs E hb hl hx' h1=>exact .arr xs vs E (eo hb) hl (fun j v c q1 q2=>(hx' j v c q1 q2).mono himm hsσ) h1
  |bJ gb gvs hgl=>exact gN.lM hgl (fun h1 hlt _=>⟨(kept gb hlt).1,(Gold gb hlt).trans h1⟩)
  |store T3 o3 sp3 nx3 z3 M3 hst=>exact .store T3 o3 sp3 nx3 z3 M3 (hst.mono himm (fun bb hb2=>⟨(Gold bb (s.bnd bb _ hb2)).trans hb2,(kept bb (s.bnd bb _ hb2)).1,(kept bb (s.bnd bb _ hb2)).2⟩) (by rw[Gsown];exact hst.sown) (hs:=hsσ) (he:=fun k=>by rw[Gσ];exact hx.uC.2.2 sp3 rfl k))
 ·have ho:=s.heap.own l x hxl hq
  rw[Gρ,Gold _ (s.bnd _ _ ho)];exact ho
 ·have ho:=s.heap.own l x hxl hq
  rw[Gρ,(kept _ (s.bnd _ _ ho)).2];exact s.heap.pre l x hxl hq
 ·by_cases hlt:b<w.heap.size
  ·exact Nat.lt_of_lt_of_le hlt hx.size
  ·rw[Gnew b hlt]at hb
   split at hb
   ·rename_i q;exact q.1
   ·cases hb
 ·have hi2:∀b k v,bT g' w' b k=some v->bT G w' b k=some v:=fun b k v hv=>by simp only[cO]at hv ⊢;rw[Gpre];exact hv
  have conv:∀{ow v x},ow=none->aH g' w' (fun _=>False) ow v x->aH G w' (aE h) ow v x:=fun q r=>
   r.keep hi2 (fun _ hf=>hf.elim) (fun _ _ _ hf=>hf.elim) (fun o b e1 _=>by rw[q]at e1;cases e1) (hsg:=fun s k a q=>by rw[Gσ];exact q)
  cases r with
  |so sz xs=>
   cases hr with
   |full _ a _ _ hz hp=>exact .full _ a sz xs hz (hp.mono hi2 (fun s k a q=>by show G.σ s k=some a;rw[Gσ];exact q))
   |own _ a cap _ _ cs E hz hp ho hpre hb hs=>
    have hge:¬a.block<w.heap.size:=fun hlt=>by rw[(hx.kept _ hlt rfl).2.2]at ho;cases ho
    have hlt':a.block<w'.heap.size:=by
     rcases Nat.lt_or_ge a.block w'.heap.size with q|q
     ·exact q
     ·rw[Array.getElem?_eq_none q]at hb;cases hb
    exact .own (.slot d) a cap sz xs cs E hz (hp.mono hi2 (fun s k a q=>by show G.σ s k=some a;rw[Gσ];exact q)) (by rw[Gnew _ hge,if_pos ⟨hlt',ho⟩]) (by rw[Gpre];exact hpre) hb hs
  |_=>exact(conv rfl (hr.bW (ow':=none) (fun _ _ q=>by cases q))).bW (fun _ _ q=>by cases q)
theorem yY {a:Act} {g:Gh} {w:World} {e':Env} {h':Heap} (s:cw g w n a e' h') (he:∀t∈slotsOf o,aL e' t=aL e t):∀(xs:List Operand) (ts:List Nat),(∀x∈xs,x∈o.op.operands)->
 (gO ty e xs ts).length=xs.length/\∀(j:Nat) (x:Operand) (y:AV),xs[j]?=some x->(gO ty e xs ts)[j]?=some y->∃ow,aH g w (aE h') ow (a.eval x) y
 | [],ts,_=>by simp[gO]
 |x::r,ts,hm=>by
  obtain⟨k1,k2⟩:=yY s he r ts.tail (fun x hx=>hm x (by simp[hx]));refine⟨by simp[gO,k1],fun j x' y hx hy=>?_⟩
  cases j with
  |zero=>
   simp only[gO,List.getElem?_cons_zero,Option.some.injEq]at hx hy;subst hx;obtain⟨ow,r1⟩:=s.cR he (hm x (by simp)) rfl;split at hy
   ·rename_i hn
    rw[hn]at r1;subst hy;generalize a.eval x=v at r1
    cases r1 with
    |cx=>cases N6 ty (headD ts) with
     |true=>exact⟨none,.cx _⟩
     |false=>exact⟨none,.p _ _ _ (.nil _)⟩
   ·rename_i sz hn
    rw[hn]at r1;subst hy;generalize a.eval x=v at r1
    cases r1 with
    |es _ ad cap _ hs=>exact⟨none,.p _ _ _ (.sl ad cap sz [] (fun _ _=>undef) hs (Nat.zero_le _) (by simp) (by simp) (by simp))⟩
   ·rename_i sz xs hn
    rw[hn]at r1;subst hy;exact⟨none,r1.copy⟩
   ·rename_i cs hn
    rw[hn]at r1;subst hy;exact⟨_,vO _ r1⟩
   ·subst hy;exact⟨ow,r1⟩
  |succ j=>simp only[gO,List.getElem?_cons_succ]at hx hy;exact k2 j x' y hx hy
theorem yN {x:Operand} {as:List Operand} {ts:Array TypeId} (ho:o.op=.call { callee:=.value x,args:=⟨as⟩,argTypes:=ts }) {a:Act} {w:World} {f:Nat} {fs cs:List Value} (hx:a.eval x=.func (.func f) fs.toArray cs.toArray) (hb:mG P f):
 (execOp a.eval o).run P w=.ok (.enter f (fs++as.map a.eval++cs).toArray) w:=by
 obtain⟨fn,c,h1,h2,h3⟩:=hb;have hnn:¬fn.name= "runtime.NumGoroutine":=by simpa using h3
 simp[execOp,ho,resolve,hx,Deferred.ofValue,invoke,callFunc,h1,h2,hnn]
theorem wW {x:Operand} {name:String} {as:List Operand} {ts:Array TypeId} (ho:o.op=.call { callee:=.invoke x name,args:=⟨as⟩,argTypes:=ts }) {a:Act} {w:World} {f T:Nat} {v:Value} (hx:a.eval x=.iface T v) (hm:Ku P T name f) (hb:mG P f):
 (execOp a.eval o).run P w=.ok (.enter f (v::as.map a.eval).toArray) w:=by
 obtain⟨fn,c,h1,h2,h3⟩:=hb;have hnn:¬fn.name= "runtime.NumGoroutine":=by simpa using h3
 have hm':=hm v w;simp[execOp,ho,resolve,hx,invoke,callMethod,hm',callFunc,h1,h2,hnn];exact List.take_of_length_le (by simp)
end
end Go.AM
