/- Part of a machine over plain values. No conditions. -/
import Derived.Test.YtdmopjgjhfhfdaaGreatDoorAMMem2
set_option linter.all false
section
namespace Go.AM
section
variable {P:Program} {ty:Nat→Option TI} {n:Nat} {o:Oper} {e:Env} {h:Heap} {K:AK}
theorem xM {o:Oper} {rd:List Nat} {hw:Heap} {v:AV} {K:AK} (hk:zO o rd hw v K):K (match o.dst with|some d=>⟨rd,[(d,v)],hw⟩|none=>⟨rd,[],hw⟩):=by
 unfold zO at hk
 cases hd:o.dst<;>simp only[hd,AV.force_eq]at hk<;>exact hk
def nH (g:Gh) (w:World) (b:Nat):Nat:=match g.own b with
 |some (.obj _)=>(match w.heap[b]? with|some (.cells c _ _)=>c.size|_=>g.pre b)
 |_=>g.pre b
def Gh.lay (g:Gh) (w:World):Gh:=⟨nH g w,fun _=>none,g.ρ,g.σ,fun _=>none⟩
theorem yF {g:Gh} {w:World} {b k:Nat} {v:Value} (hv:bR g w b k=some v):bR (g.lay w) w b k=some v:=by
 have hc:=j7 hv;simp only[cI]at hv ⊢
 have hk:k<(g.lay w).pre b:=by
  show k<nH g w b;unfold nH;have hk0:k<g.pre b:=by split at hv;assumption;cases hv
  split
  ·split
   ·rename_i hb
    have:w.cell? ⟨b,k,none⟩=_:=dx hb k;rw[hc]at this;exact(Array.getElem?_eq_some_iff.1 this.symm).1
   ·exact hk0
  ·exact hk0
 rw[if_pos hk];exact hc
theorem HI {g:Gh} {w:World} {l:Nat} {vs:Array Value} {E:TypeId} (ho:g.own (g.ρ l)=some (.obj l)) (hb:w.heap[g.ρ l]?=some (.cells vs E (0,0))) {k:Nat} {v:Value} (hv:vs[k]?=some v):bR (g.lay w) w (g.ρ l) k=some v:=by
 simp only[cI]
 have hk:k<(g.lay w).pre (g.ρ l):=by
  show k<nH g w (g.ρ l);unfold nH;rw[ho,hb];exact(Array.getElem?_eq_some_iff.1 hv).1
 rw[if_pos hk,dx hb];exact hv
theorem nN {M:Mm} {v:Value} {x:PV} (r:aZ M v x) (h1:v.oneCell'=true):x.cells=[x]:=by
 cases r<;>first|rfl|simp[Value.oneCell']at h1
theorem Co {g:Gh} {w:World} {h:Heap} (hr:gj g w h) {l:Nat} {xs:List PV} (hl:aG h l=some (.arr xs)) {m:Nat} (hn:∃(cs:Array Value) (E:TypeId),w.heap[g.ρ l]?=some (.cells cs E (0,0))∧cs.size=m):
 aZ (bR (g.lay w) w) (.slice (some ⟨g.ρ l,0,none⟩) m m) (.sl 1 xs):=by
 obtain⟨cs,E,hb,rfl⟩:=hn
 cases hr.obj l _ hl with
 |arr _ vs E' hb' hlen hx h1=>
  rw[hb]at hb';cases hb';rw[hlen]
  have he:∀(j:Nat) (x:PV),xs[j]?=some x→∃v,cs[j]?=some v∧v.oneCell'=true∧aZ (bR g w) v x:=fun j x hj=>by
   have hjl:j<cs.size:=by rw[hlen];exact(List.getElem?_eq_some_iff.1 hj).1
   have hv:cs[j]?=some cs[j]:=Array.getElem?_eq_getElem hjl;exact⟨cs[j],hv,h1 _ (by simp),hx j _ x hv hj⟩
  refine .sl ⟨g.ρ l,0,none⟩ xs.length 1 xs (fun j _=>cs.getD j undef) (fun _=>rfl) (Nat.le_refl _) (fun x hxm=>?_) (fun j x hj i y hi=>?_) (fun j x hj i y hi=>?_)
  ·obtain⟨j,hj⟩:=List.getElem?_of_mem hxm
   obtain⟨v,q1,q2,q3⟩:=he j x hj;rw[nN q3 q2];rfl
  ·obtain⟨v,q1,q2,q3⟩:=he j x hj
   rw[nN q3 q2]at hi;have hi0:i=0:=by have:=(List.getElem?_eq_some_iff.1 hi).1;simp at this;exact this
   subst hi0;have e1:cs.getD j undef=v:=by simp[Array.getD_eq_getD_getElem?,q1]
   rw[e1];refine⟨?_,q2⟩;simp only[Nat.zero_add,Nat.mul_one,Nat.add_zero];exact HI (hr.own l _ hl rfl) hb q1
  ·obtain⟨v,q1,q2,q3⟩:=he j x hj
   rw[nN q3 q2]at hi;have hi0:i=0:=by have:=(List.getElem?_eq_some_iff.1 hi).1;simp at this;exact this
   subst hi0;simp at hi;subst hi;have e1:cs.getD j undef=v:=by simp[Array.getD_eq_getD_getElem?,q1]
   rw[e1];exact q3.mono fun _ _ _ hv=>yF hv
theorem zg {σ:Nat→Nat} {d:Nat→Bool} {h':Heap}:∀(R:List Nat) (k:Nat),(∀l∈R,aG h' l=aG h l)→oC h' σ d R k=oC h σ d R k
 | [],k,_=>rfl
 |x::r,k,hh=>by simp only[oC,hh x (by simp),zg r (k+1) (fun l hl=>hh l (by simp[hl]))]
theorem vm {B m:Nat} {R:List Nat} {h':Heap} {L:Heap} (hh:∀x∈aO (dR R B L),aG h' x=aG h x):∀(ks:List Nat),(∀k∈ks,k∈aO L)→ox h B m ks=true→ox h' B m ks=true
 | [],_,_=>rfl
 |l::r,hs,hc=>by
  simp only[ox,Bool.and_eq_true]at hc ⊢;refine⟨?_,vm hh r (fun k hk=>hs k (by simp[hk])) hc.2⟩;have h1:=hc.1
  cases hb:Nat.ble bP l with
  |true=>rw[hb]at h1;exact h1
  |false=>
   rw[hb]at h1
   have hx:B+l∈aO (dR R B L):=by
    rw[eY];exact List.mem_map.2 ⟨l,hs l (by simp),by simp[ef,hb]⟩
   show fh h' (B+l)=true;have h1:fh h (B+l)=true:=h1;unfold fh at h1 ⊢;rw[hh _ hx];exact h1
theorem xR (e:Env):∀(xs:List Operand) (ts:List Nat) (y:AV),y∈gI ty e xs ts→∀sz l,y≠.so sz l
 | [],ts,y,hy=>by simp[gI]at hy
 |x::r,ts,y,hy=>by
  simp only[gI,List.mem_cons]at hy;rcases hy with rfl|hy
  ·intro sz l
   split
   ·split<;>(intro q;cases q)
   ·intro q;cases q
   ·intro q;cases q
   ·unfold Ag;split
    ·split
     ·intro q;cases q
     ·intro q;cases q
    ·intro q;cases q
   ·rename_i hns _;intro q;exact hns sz l q
  ·exact xR e r ts.tail y hy
theorem Ay {x:Operand} {as:List Operand} {ts:List Nat} {first caps:List AV} {fs cs:List Value} {g:Gh} {w:World} {a:Act} {e':Env} {h':Heap} (s:cp g w n a e' h') (he:∀t∈slotsOf o,aL e' t=aL e t)
 (m2:∀y∈as,y∈o.op.operands) (h1:fs.length=first.length) (h2:cs.length=caps.length)
 (hf:∀(j:Nat) (v:Value) (c:AV),fs[j]?=some v→first[j]?=some c→aH g w (aF h') none v c) (hc:∀(j:Nat) (v:Value) (c:AV),cs[j]?=some v→caps[j]?=some c→aH g w (aF h') none v c):
 (fs++as.map a.eval++cs).length=(first++gI ty e as ts++caps).length∧∀(j:Nat) (v:Value) (y:AV),(fs++as.map a.eval++cs)[j]?=some v→(first++gI ty e as ts++caps)[j]?=some y→aH g w (aF h') none v y:=by
 obtain⟨k1,k2⟩:=xI (ty:=ty) s he as ts m2;refine⟨by simp[h1,h2,k1],fun j v y q1 q2=>?_⟩
 by_cases hj1:j<fs.length
 ·rw[List.append_assoc,List.getElem?_append_left hj1]at q1
  rw[List.append_assoc,List.getElem?_append_left (by omega)]at q2;exact hf j v y q1 q2
 ·by_cases hj2:j<fs.length+as.length
  ·rw[List.append_assoc,List.getElem?_append_right (by omega),List.getElem?_append_left (by simp;omega),List.getElem?_map]at q1
   rw[List.append_assoc,List.getElem?_append_right (by omega),List.getElem?_append_left (by omega),←h1]at q2
   cases hq:as[j-fs.length]? with
   |none=>simp[hq]at q1
   |some z=>
    simp only[hq,Option.map_some,Option.some.injEq]at q1;subst q1;obtain⟨_,hr⟩:=k2 _ z y hq q2;exact hr.bW (xR e as ts y (List.mem_of_getElem? q2))
  ·rw[List.getElem?_append_right (by simp;omega)]at q1
   rw[List.getElem?_append_right (by simp;omega)]at q2;refine hc (j-(fs++as.map a.eval).length) v y q1 ?_;rw[←q2];congr 1;simp[h1,k1]
theorem AU {name:String} {f:Nat}:∀{l:List (String×Nat)},Gw name l=some f→(name,f)∈l
 | [],h=>by cases h
 |(a,b)::r,h=>by
  rw[Gw]at h;split at h
  ·rename_i q;cases h;rw[beq_iff_eq]at q;subst q;exact List.mem_cons_self ..
  ·exact List.mem_cons_of_mem _ (AU h)
theorem D2 (hty:bz P ty) {T f:Nat} {name:String} (h:Ci ty T name=some f):Kr P T name f:=by
 unfold Ci at h;split at h
 ·rename_i i hi;exact(hty T i hi).mth _ (AU h)
 ·cases h
inductive BP (P:Program) (e:Env) (o:Oper) (as:List Operand) (ts:List Nat) (f:Nat) (first caps:List AV):Prop
 |value (x:Operand) (ho:o.op=.call { callee:=.value x,args:=⟨as⟩,argTypes:=⟨ts⟩ }) (hx:ev e x=.fn f first caps)
 |invoke (x:Operand) (name:String) (T:Nat) (y:PV) (ho:o.op=.call { callee:=.invoke x name,args:=⟨as⟩,argTypes:=⟨ts⟩ }) (hx:ev e x=.p (.uq T y)) (hm:Kr P T name f) (h1:first=[.p y]) (h2:caps=[])
theorem BP.args {as:List Operand} {ts:List Nat} {f:Nat} {first caps:List AV} (hc:BP P e o as ts f first caps) (hb:lW P f) {g:Gh} {w:World} {a:Act} {e':Env} {h':Heap} (s:cp g w n a e' h') (he:∀t∈slotsOf o,aL e' t=aL e t):
 ∃vs:List Value,(execOp a.eval o).run P w=.ok (.enter f vs.toArray) w∧vs.length=(first++gI ty e as ts++caps).length∧∀(j:Nat) (v:Value) (y:AV),vs[j]?=some v→(first++gI ty e as ts++caps)[j]?=some y→aH g w (aF h') none v y:=by
 cases hc with
 |value x ho hx=>
  have m1:x∈o.op.operands:=by simp[ho,Op.operands,Call.operands]
  have m2:∀y∈as,y∈o.op.operands:=fun y hy=>by simp[ho,Op.operands,Call.operands,hy]
  obtain⟨_,r1⟩:=s.cN he m1 hx;generalize hv:a.eval x=v at r1
  cases r1 with
  |fn _ _ fs cs _ _ h1 h2 hf hc=>
   obtain⟨k1,k2⟩:=Ay (ty:=ty) (x:=x) (ts:=ts) s he m2 h1 h2 hf hc;exact⟨_,yb ho hv hb,k1,k2⟩
 |invoke x name T y ho hx hm h1 h2=>
  subst h1;subst h2;have m1:x∈o.op.operands:=by simp[ho,Op.operands,Call.operands]
  have m2:∀y∈as,y∈o.op.operands:=fun y hy=>by simp[ho,Op.operands,Call.operands,hy]
  obtain⟨_,r1⟩:=s.cN he m1 hx;generalize hv:a.eval x=v at r1
  cases r1 with
  |p _ _ _ hp=>
   cases hp with
   |uq _ v1 _ hp1=>
    obtain⟨k1,k2⟩:=Ay (ty:=ty) (x:=x) (ts:=ts) (fs:=[v1]) (cs:=[]) (first:=[.p y]) (caps:=[]) s he m2 rfl rfl (fun j v c q1 q2=>by
     cases j with
     |zero=>simp only[List.getElem?_cons_zero,Option.some.injEq]at q1 q2;subst q1;subst q2;exact .p _ _ _ hp1
     |succ j=>simp at q1) (fun j v c q1 _=>by simp at q1)
    exact⟨_,by rw[vW ho hv hm hb];simp,k1,k2⟩
theorem Ip (hd:∀d,o.dst=some d→d<n) {as:List Operand} {ts:List Nat} {f:Nat} {first caps:List AV} (hx:BP P e o as ts f first caps) {K:AK}
 {R:List Nat} {B:Nat} {hs:Heap} {r:AV} {h2:Heap} (ck1:(AV.dB (bB R) (first++gI ty e as ts++caps)&&nodupB R)=true) (hsub:oC h (fR R 0) (bB R) R 0=some hs)
 (hcall0:av P f (AV.oQ (fR R 0) (first++gI ty e as ts++caps)) hs r h2) (ck2:(nodupB (aO h2)&&ox h B R.length (aO h2)&&kB (aO h2) R.length)=true) (hk:zO o R (dR R B h2) (r.wv (ef R B)) K):∃f,K f∧cF P n o e h f:=by
 obtain⟨⟨hb,hglob⟩,hcall⟩:=hcall0;simp only[Bool.and_eq_true]at ck1 ck2;obtain⟨ckw,ckn⟩:=ck1;obtain⟨⟨ck3,ck4⟩,ck5⟩:=ck2;refine⟨_,xM hk,fun e' h' he hl g w a s=>?_⟩
 have hlR:∀l∈R,aG h' l=aG h l:=fun l hlR=>by
  cases hdst:o.dst<;>simp only[hdst]at hl<;>exact hl l (by simp[hlR])
 have keys:∀(L:Heap) (x:Nat),x∈aO L→x∈L.map (·.1):=by
  intro L
  induction L with
  |nil=>intro x hx;cases hx
  |cons p q ih=>
   obtain⟨k,v⟩:=p;intro x hx;simp only[aO,List.mem_cons]at hx;rcases hx with rfl|hx
   ·simp
   ·exact List.mem_cons_of_mem _ (ih x hx)
 have hlN:∀x∈aO (dR R B h2),aG h' x=aG h x:=fun x hxk=>by
  have:=keys _ x hxk
  cases hdst:o.dst<;>simp only[hdst]at hl<;>exact hl x (List.mem_append_right _ this)
 have hn:=mo ckn;have hsub':oC h' (fR R 0) (bB R) R 0=some hs:=by rw[zg R 0 hlR];exact hsub
 have ck4':=vm hlN _ (fun _ q=>q) ck4;obtain⟨cvs,hrun,k1,k2⟩:=hx.args hb s he
 have hargs:=hcall (g.jg R) w cvs (s.heap.jg hn hsub') (fun b q hq=>by
  have hq:cw R (g.own b)=some q:=hq
  cases hg:g.own b with
  |none=>rw[hg]at hq;simp[cw]at hq
  |some q'=>exact s.bnd b q' hg) (by rw[k1,fY]) (fun j v y q1 q2=>by
  rw[jY]at q2
  cases hq:(first++gI ty e as ts++caps)[j]? with
  |none=>rw[hq]at q2;cases q2
  |some c0=>
   rw[hq,Option.map_some,Option.some.injEq]at q2;subst q2;have hr0:=k2 j v c0 q1 hq;exact aH.jg hn hsub' (fun q e1=>by cases e1) hr0 (bZ _ _ ckw j c0 hq))
 simp only[Oper.wp,hrun,Oper.upon];refine hargs.mono ?_;rintro en w' ⟨v,g',rfl,hr,hH,hbn,hE⟩
 cases hdst:o.dst with
 |none=>
  obtain⟨G,q1,q2,_⟩:=s.GQ 0 hn hsub' hE hH hbn (mo ck3) ck4' ck5 hglob;exact⟨G,q1,q2⟩
 |some d=>
  obtain⟨G,q1,q2,q3⟩:=s.GQ d hn hsub' hE hH hbn (mo ck3) ck4' ck5 hglob;exact⟨G,q1.put (hd d hdst) (q3 v r hr),q2⟩
theorem vo (hd:∀d,o.dst=some d→d<n) {as:List Operand} {ts:List Nat} {f:Nat} {first caps:List AV} (hx:BP P e o as ts f first caps)
 (hk:dj P f (first++gI ty e as ts++caps) h fun rd hw r=>zO o rd hw r K):∃f,K f∧cF P n o e h f:=by
 rcases hk with⟨r,hfree,⟨hb,hcall⟩,hk⟩|⟨R,B,hs,r,h2,ck1,hsub,hcall,ck2,hk⟩
 ·refine⟨_,xM hk,fun e' h' he _ g w a s=>?_⟩
  obtain⟨cvs,hrun,k1,k2⟩:=hx.args hb s he
  have hargs:=hcall { g with own:=fun _=>none,sown:=fun _=>none } w cvs (fun _=>rfl) (fun _=>rfl) k1 (fun j v y q1 q2=>by
   exact(k2 j v y q1 q2).I1 (kJ _ hfree j y q2) _ none _)
  simp only[Oper.wp,hrun,Oper.upon];refine hargs.mono ?_;rintro en w' ⟨v,g',rfl,hr,hE⟩
  cases hdst:o.dst with
  |none=>
   obtain⟨q1,q2,_⟩:=s.called hE 0;exact⟨_,q1,q2⟩
  |some d=>
   obtain⟨q1,q2,q3⟩:=s.called hE d;exact⟨_,q1.put (hd d hdst) (q3 v r hr),q2⟩
 ·exact Ip hd hx ck1 hsub hcall ck2 hk
end
end Go.AM
end
section
namespace Go.AM
theorem L7 {a b:Bool} (h:Lg a b=true):a=b:=by cases a<;>cases b<;>first|rfl|cases h
theorem dI {T:Nat} {one:Bool} {h:Heap} {K:Nat→Nat→Nat→Nat→List (Nat×List PV)→Prop} (hk:qJ T one h K):∃l sp nx sz M,aG h l=some (.store T one sp nx sz M)∧K l sp nx sz M:=by
 unfold qJ at hk;split at hk
 ·rename_i l _
  split at hk
  ·rename_i T' o sp nx sz M hg
   split at hk
   ·rename_i h1 h2
    obtain rfl:=Nat.eq_of_beq_eq_true h1;obtain rfl:=L7 h2;exact⟨l,sp,nx,sz,M,hg,hk⟩
   ·exact hk.elim
  ·exact hk.elim
 ·exact hk.elim
theorem cW {k:Nat} {xs:List PV}:∀{M:List (Nat×List PV)},rD k M=some xs→(k,xs)∈M
 | [],h=>by cases h
 |(a,ys)::r,h=>by
  rw[rD]at h;split at h
  ·rename_i hb
   obtain rfl:=Nat.eq_of_beq_eq_true hb;cases h;simp
  ·exact List.mem_cons_of_mem _ (cW h)
theorem Ad (k:Nat) (xs:List PV):∀(M:List (Nat×List PV)),(sset k xs M).map (·.1)=M.map (·.1)
 | []=>rfl
 |(a,ys)::r=>by
  rw[sset];split
  ·rfl
  ·rw[List.map_cons,List.map_cons,Ad k xs r]
theorem x7 {k:Nat} {xs:List PV} {p:Nat×List PV}:∀{M:List (Nat×List PV)},(M.map (·.1)).Nodup→p∈sset k xs M→(p∈M∧p.1≠k)∨p=(k,xs)
 | [],_,h=>by cases h
 |(a,ys)::r,hn,h=>by
  rw[sset]at h;rw[List.map_cons,List.nodup_cons]at hn;split at h
  ·rename_i hb
   obtain rfl:=Nat.eq_of_beq_eq_true hb;rcases List.mem_cons.1 h with rfl|h
   ·exact .inr rfl
   ·exact .inl ⟨List.mem_cons_of_mem _ h,fun e=>hn.1 (e ▸ List.mem_map.2 ⟨p,h,rfl⟩)⟩
  ·rename_i hb
   rcases List.mem_cons.1 h with rfl|h
   ·exact .inl ⟨List.mem_cons_self ..,fun e=>by simp only at e;subst e;simp at hb⟩
   ·rcases x7 hn.2 h with⟨h1,h2⟩|h1
    ·exact .inl ⟨List.mem_cons_of_mem _ h1,h2⟩
    ·exact .inr h1
theorem mO {k:Nat} {p:Nat×List PV}:∀{M:List (Nat×List PV)},p∈mH k M→p∈M
 | [],h=>by cases h
 |(a,ys)::r,h=>by
  rw[mH]at h;split at h
  ·exact List.mem_cons_of_mem _ h
  ·rcases List.mem_cons.1 h with rfl|h
   ·exact List.mem_cons_self ..
   ·exact List.mem_cons_of_mem _ (mO h)
theorem Cf {k:Nat} {p:Nat×List PV}:∀{M:List (Nat×List PV)},(M.map (·.1)).Nodup→p∈mH k M→p.1≠k
 | [],_,h=>by cases h
 |(a,ys)::r,hn,h=>by
  rw[mH]at h;rw[List.map_cons,List.nodup_cons]at hn;split at h
  ·rename_i hb
   obtain rfl:=Nat.eq_of_beq_eq_true hb;exact fun e=>hn.1 (e ▸ List.mem_map.2 ⟨p,h,rfl⟩)
  ·rename_i hb
   rcases List.mem_cons.1 h with rfl|h
   ·intro e;simp only at e;subst e;simp at hb
   ·exact Cf hn.2 h
theorem uL (k:Nat):∀(M:List (Nat×List PV)),List.Sublist ((mH k M).map (·.1)) (M.map (·.1))
 | []=>.slnil
 |(a,ys)::r=>by
  rw[mH];split
  ·exact List.sublist_cons_self ..
  ·exact(uL k r).cons_cons _
structure nE (g:Gh) (w:World) (g':Gh) (w':World) (l sp:Nat):Prop where
 ρ:g'.ρ=g.ρ
 sown:g'.sown=g.sown
 σ:∀s k a,g.σ s k=some a→g'.σ s k=some a
 σo:∀s,s≠sp→∀k,g'.σ s k=g.σ s k
 bR:∀b o v,bR g w b o=some v→bR g' w' b o=some v
 own:∀b o,g.own b=some o→o≠.obj l→g'.own b=some o∧g'.pre b=g.pre b∧w'.heap[b]?=w.heap[b]?
 kept:∀b,b<w.heap.size→g.own b=none→w'.heap[b]?=w.heap[b]?∧g'.pre b=g.pre b∧g'.own b=none
 siz:∀(b:Nat) (cs:Array Value) (E:TypeId),w.heap[b]?=some (.cells cs E (0,0))→∃(cs':Array Value) (E':TypeId),w'.heap[b]?=some (.cells cs' E' (0,0))∧cs'.size=cs.size
 bnd:∀b o,g'.own b=some o→b<w'.heap.size
 size:w.heap.size≤w'.heap.size
 os:w'.os=w.os
 out:w'.output=w.output
 frz':∀a:Addr,a.block<w.heap.size→w'.frozen? a=w.frozen? a
theorem nE.ext {g g':Gh} {w w':World} {l sp:Nat} (d:nE g w g' w' l sp) (h:g.sown sp=some l):Ext g w g' w':=
 ⟨d.size,d.os,d.out,d.bR,d.kept,⟨d.σ,d.sown,fun s q k=>d.σo s (fun e=>by subst e;rw[h]at q;cases q) k⟩,d.frz',fun _ _=>by rw[d.ρ],d.siz⟩
theorem cp.dyn {g g':Gh} {w w':World} {n:Nat} {a:Act} {e:Env} {h:Heap} (s:cp g w n a e h) {l T:Nat} {one:Bool} {sp nx sz nx':Nat} {M M':List (Nat×List PV)} (hl:aG h l=some (.store T one sp nx sz M))
 (d:nE g w g' w' l sp) (hst:er g' w' l sp nx' sz M'):cp g' w' n a e ((l,.store T one sp nx' sz M')::h)∧Ext g w g' w':=by
 have hsl:g.sown sp=some l:=by rw[←d.sown];exact hst.sown
 have hdom:∀k,aF h k→aF ((l,br.store T one sp nx' sz M')::h) k:=fun k hk=>(fy hl k).2 hk
 have up:∀{ow v x},ow≠some (.obj l)→aH g w (aF h) ow v x→aH g' w' (aF ((l,br.store T one sp nx' sz M')::h)) ow v x:=fun hne r=>
  r.keep d.bR (fun k hk=>⟨hdom k hk,by rw[d.ρ]⟩) (fun k cs E _ hb=>d.siz _ cs E hb) (fun o b e1 h1=>d.own b o h1 (fun e2=>hne (by rw[e1,e2]))) (hsg:=d.σ)
 refine⟨⟨s.defers,s.size,fun i=>up (by simp) (s.env i),⟨fun k z hz=>?_,fun k z hz hq=>?_,fun k z hz hq=>?_⟩,d.bnd⟩,d.ext hsl⟩
 ·by_cases ek:l=k
  ·subst ek;rw[aP]at hz;cases hz;exact .store _ _ _ _ _ _ hst
  ·rw[aT ek]at hz
   have eo:z.dK=true→w'.heap[g'.ρ k]?=w.heap[g.ρ k]?:=fun hq=>by
    rw[d.ρ];exact(d.own _ _ (s.heap.own k z hz hq) (by simp;exact fun e=>ek e.symm)).2.2
   cases s.heap.obj k z hz with
   |cells cs vs E' hb' hl' hx' h1=>exact .cells cs vs E' ((eo rfl).trans hb') hl' (fun j v c q1 q2=>up (by simp) (hx' j v c q1 q2)) h1
   |arr xs vs E' hb' hl' hx' h1=>exact .arr xs vs E' ((eo rfl).trans hb') hl' (fun j v c q1 q2=>(hx' j v c q1 q2).mono d.bR d.σ) h1
   |bK gb gvs hgl=>exact gG.kP hgl (fun h1 hlt _=>⟨(d.kept gb hlt h1).1,(d.kept gb hlt h1).2.2⟩)
   |store T3 o3 sp3 nx3 z3 M3 hst3=>
    refine .store T3 o3 sp3 nx3 z3 M3 (hst3.mono d.bR (fun bb hbb=>by obtain⟨q1,q2,q3⟩:=d.own bb _ hbb (by simp;exact fun e=>ek e.symm);exact⟨q1,q3,q2⟩) (by rw[d.sown];exact hst3.sown) (hs:=d.σ) (he:=fun k2=>d.σo sp3 (fun e=>?_) k2));subst e;have:=hst3.sown;rw[hsl]at this;cases this;exact ek rfl
 ·by_cases ek:l=k
  ·subst ek;rw[aP]at hz;cases hz;cases hq
  ·rw[aT ek]at hz
   rw[d.ρ];exact(d.own _ _ (s.heap.own k z hz hq) (by simp;exact fun e=>ek e.symm)).1
 ·by_cases ek:l=k
  ·subst ek;rw[aP]at hz;cases hz;cases hq
  ·rw[aT ek]at hz
   rw[d.ρ,(d.own _ _ (s.heap.own k z hz hq) (by simp;exact fun e=>ek e.symm)).2.1];exact s.heap.pre k z hz hq
theorem nE.setRow {g:Gh} {w:World} {l sp A:Nat} {old vs:Array Value} {E:TypeId} (hown:g.own A=some (.obj l)) (hpre:g.pre A=0) (hb:w.heap[A]?=some (.cells old E (0,0))) (hs:vs.size=old.size) (hbnd:∀b o,g.own b=some o→b<w.heap.size):nE g w g (w.setRow A vs) l sp:=by
 refine⟨rfl,rfl,fun _ _ _ q=>q,fun _ _ _=>rfl,fun b i u hu=>?_,fun b o h1 h2=>⟨h1,rfl,setRow_other _ _ _ _ (fun e=>by subst e;rw[hown]at h1;cases h1;exact h2 rfl)⟩,fun b _ hn=>⟨setRow_other _ _ _ _ (fun e=>by subst e;rw[hown]at hn;cases hn),rfl,hn⟩,fun b cs E' hb'=>?_,fun b o ho=>by rw[setRow_size];exact hbnd b o ho,by rw[setRow_size];exact Nat.le_refl _,rfl,rfl,fun a _=>mF hb a⟩
 ·by_cases hbl:b=A
  ·subst hbl;simp only[cI]at hu;rw[hpre]at hu;simp at hu
  ·simp only[cI]at hu ⊢;rw[cell_setRow_other _ _ _ _ hbl];exact hu
 ·by_cases hbl:b=A
  ·subst hbl;rw[hb]at hb';cases hb';exact⟨vs,E,setRow_heap _ _ _ _ _ _ hb,hs⟩
  ·exact⟨cs,E',by rw[setRow_other _ _ _ _ hbl];exact hb',rfl⟩
def Gh.num (g:Gh) (sp k:Nat) (B:Nat×Nat):Gh:={ g with σ:=fun s q=>if s=sp∧q=k then some B else g.σ s q }
def Gh.di (g:Gh) (B C l sp k:Nat):Gh:={ pre:=fun b=>if b=B then 0 else g.pre b,own:=fun b=>if b=B then some (.obj l) else g.own b,ρ:=g.ρ,σ:=fun s q=>if s=sp∧q=k then some (B,C) else g.σ s q,sown:=g.sown }
theorem nE.num {g:Gh} {w:World} {l sp k:Nat} {B:Nat×Nat} (hf:g.σ sp k=none) (hbnd:∀b o,g.own b=some o→b<w.heap.size):nE g w (g.num sp k B) w l sp:=by
 refine⟨rfl,rfl,fun s q a hq=>?_,fun s hs q=>by simp[Gh.num,hs],fun _ _ _ h=>h,fun b o h1 _=>⟨h1,rfl,rfl⟩,fun b _ hn=>⟨rfl,rfl,hn⟩,fun b cs E hb=>⟨cs,E,hb,rfl⟩,hbnd,Nat.le_refl _,rfl,rfl,fun _ _=>rfl⟩;have:¬(s=sp∧q=k):=fun⟨e1,e2⟩=>by subst e1;subst e2;rw[hf]at hq;cases hq
 simp only[Gh.num,if_neg this];exact hq
theorem nE.push {g:Gh} {w:World} {l sp k C:Nat} {cs:Array Value} {E:TypeId} (hf:g.σ sp k=none) (hbnd:∀b o,g.own b=some o→b<w.heap.size):nE g w (g.di w.heap.size C l sp k) (World.push w (.cells cs E (0,0))) l sp:=by
 have hp:∀b,b<w.heap.size→(g.di w.heap.size C l sp k).pre b=g.pre b∧(g.di w.heap.size C l sp k).own b=g.own b:=fun b hb=>by simp[Gh.di,Nat.ne_of_lt hb]
 refine⟨rfl,rfl,fun s q a hq=>?_,fun s hs q=>by simp[Gh.di,hs],fun b o v h=>nu (fun b hb=>(hp b hb).1) h,fun b o h1 _=>?_,fun b hb hn=>⟨cD hb,(hp b hb).1,(hp b hb).2.trans hn⟩,fun b cs2 E2 hb=>⟨cs2,E2,by rw[cD (od hb)];exact hb,rfl⟩,fun b o ho=>?_,by rw[fA];omega,rfl,rfl,fun a _=>gf a⟩
 ·have:¬(s=sp∧q=k):=fun⟨e1,e2⟩=>by subst e1;subst e2;rw[hf]at hq;cases hq
  simp only[Gh.di,if_neg this];exact hq
 ·have hb:=hbnd b o h1
  exact⟨(hp b hb).2.trans h1,(hp b hb).1,cD hb⟩
 ·rw[fA]
  by_cases hb:b=w.heap.size
  ·omega
  ·have:(g.di w.heap.size C l sp k).own b=g.own b:=by simp[Gh.di,hb]
   rw[this]at ho;have:=hbnd b o ho;omega
theorem nE.trans {g g1 g2:Gh} {w w1 w2:World} {l sp:Nat} (d:nE g w g1 w1 l sp) (d':nE g1 w1 g2 w2 l sp):nE g w g2 w2 l sp:=by
 refine⟨d'.ρ.trans d.ρ,d'.sown.trans d.sown,fun s k a q=>d'.σ s k a (d.σ s k a q),fun s h k=>(d'.σo s h k).trans (d.σo s h k),fun b o v q=>d'.bR b o v (d.bR b o v q),fun b o h1 h2=>?_,fun b hb hn=>?_,fun b cs E hb=>?_,d'.bnd,Nat.le_trans d.size d'.size,d'.os.trans d.os,d'.out.trans d.out,fun a ha=>?_⟩
 ·obtain⟨q1,q2,q3⟩:=d.own b o h1 h2
  obtain⟨p1,p2,p3⟩:=d'.own b o q1 h2;exact⟨p1,p2.trans q2,p3.trans q3⟩
 ·obtain⟨q1,q2,q3⟩:=d.kept b hb hn
  obtain⟨p1,p2,p3⟩:=d'.kept b (Nat.lt_of_lt_of_le hb d.size) q3;exact⟨p1.trans q1,p2.trans q2,p3⟩
 ·obtain⟨cs1,E1,q1,q2⟩:=d.siz b cs E hb
  obtain⟨cs2,E2,q3,q4⟩:=d'.siz b cs1 E1 q1;exact⟨cs2,E2,q3,q4.trans q2⟩
 ·rw[d'.frz' a (Nat.lt_of_lt_of_le ha d.size)];exact d.frz' a ha
theorem nE.drew {g:Gh} {w:World} {l sp k:Nat} (hbnd:∀b o,g.own b=some o→b<w.heap.size):nE g w g { w with drawn:=k } l sp:=
 ⟨rfl,rfl,fun _ _ _ q=>q,fun _ _ _=>rfl,fun _ _ _ q=>q,fun _ _ h1 _=>⟨h1,rfl,rfl⟩,fun _ _ hn=>⟨rfl,rfl,hn⟩,fun _ cs E hb=>⟨cs,E,hb,rfl⟩,hbnd,Nat.le_refl _,rfl,rfl,fun _ _=>rfl⟩
end Go.AM
end
section
namespace Go.AM
section
variable {P:Program} {ty:Nat→Option TI} {n:Nat} {o:Oper} {e:Env} {h:Heap} {K:AK}
theorem De {g:Gh} {w:World} {dom:Nat→Prop} {ow:Option aY} {v:Value} {x:AV} {S T sz0 s k m c:Nat} {one:Bool} (r:aH g w dom ow v x) (h:LJ S x=some (T,one,sz0,s,k,m,c)):
 ∃A,g.σ s k=some A∧v=.pointer (some ⟨A.1,m*sz0+c,none⟩):=by
 unfold LJ at h;split at h
 ·cases h
  cases r with
  |p _ _ _ hp=>cases hp with|bH _ _ a C q=>exact⟨(a,C),q,by simp⟩
 ·cases h
  cases r with
  |p _ _ _ hp=>cases hp with|pa _ _ _ _ _ _ _ a C q=>exact⟨(a,C),q,rfl⟩
 ·cases h
theorem cp.blk {g:Gh} {w:World} {a:Act} {e':Env} {h':Heap} (s:cp g w n a e' h') {l T sp nx sz:Nat} {one:Bool} {M:List (Nat×List PV)} (hl:aG h' l=some (.store T one sp nx sz M)):er g w l sp nx sz M:=by
 cases s.heap.obj l _ hl with|store _ _ _ _ _ _ h=>exact h
theorem Kl {m sz0 sz c:Nat} (h:m=0∨sz0=sz):m*sz0+c=m*sz+c:=by rcases h with rfl|rfl<;>simp
theorem Db (hty:bz P ty) (hd:∀d,o.dst=some d→d<n) {x:Operand} {t:Nat} (ho:o.op=.load t x) (hk:KO ty o h t (ev e x) K):∃f,K f∧cF P n o e h f:=by
 have m1:x∈o.op.operands:=by simp[ho,Op.operands]
 have hrun:∀(a:Act) (w:World) (v u:Value),a.eval x=v→(Instr.loadAt t v).run P w=.ok u w→(execOp a.eval o).run P w=.ok (.value u) w:=by
  intro a w v u hv hr;simp only[execOp,ho,hv,Sem.run_bind,hr,Result.andThen_ok,Sem.run_pure]
 unfold KO at hk;split at hk
 ·rename_i i hi
  split at hk
  ·rename_i cs hx
   split at hk
   ·rename_i hag
    split at hk
    ·rename_i l1 hl1
     obtain⟨k1,k2⟩:=fZ _ _ _ _ hl1;refine aI hd hk fun e' h' he g w a s=>?_;obtain⟨_,r1⟩:=s.cN he m1 hx;generalize hv:a.eval x=v at r1
     cases r1 with
     |p _ _ _ hp=>
     cases hp with
     |bx ad _ f hs hm hxx=>
      have hlen:∀j,j<i.size→∃y,cs[j]?=some y∧l1[j]?=some y:=by
       intro j hj;have:=k2 j hj;rw[Nat.zero_add]at this;have hlt:j<l1.length:=by omega
       exact⟨l1[j],by rw[←this];simp[hlt],by simp[hlt]⟩
      refine⟨.agg ((List.range i.size).map f).toArray,hrun a w _ _ hv ?_,fun d _=>.p _ _ _ (.agg _ _ (by simp[k1]) (fun v hv=>?_) fun j v y hj hy=>?_)⟩
      ·refine lB hty hi hs _ (by simp) (fun j v hj=>?_) hag
       simp only[List.getElem?_map,List.getElem?_range]at hj
       have hji:j<i.size:=by
        rcases Nat.lt_or_ge j i.size with h2|h2
        ·exact h2
        ·rw[List.getElem?_eq_none (by simpa using h2)]at hj;simp at hj
       rw[List.getElem?_range hji]at hj;simp at hj;subst hj;obtain⟨y,hy,_⟩:=hlen j hji;exact j7 (hm j y hy).1
      ·obtain⟨j,hj,rfl⟩:=List.mem_map.1 hv
       obtain⟨y,hy,_⟩:=hlen j (by simpa using hj);exact(hm j y hy).2
      ·have hji:j<i.size:=by have:=(List.getElem?_eq_some_iff.1 hy).1;omega
       rw[List.getElem?_map,List.getElem?_range hji]at hj;simp at hj;subst hj;obtain⟨y',hy1,hy2⟩:=hlen j hji;rw[hy2]at hy;cases hy;exact hxx j _ hy1
    ·exact hk.elim
   ·rename_i hag
    split at hk
    ·rename_i y r
     refine aI hd hk fun e' h' he g w a s=>?_;obtain⟨_,r1⟩:=s.cN he m1 hx;generalize hv:a.eval x=v at r1
     cases r1 with
     |p _ _ _ hp=>
     cases hp with
     |bx ad _ f hs hm hxx=>
      have h0:=hm 0 y (by simp);exact⟨f 0,hrun a w _ _ hv (fc hty hi hs hag (by simpa using j7 h0.1)),fun d _=>.p _ _ _ (hxx 0 y (by simp))⟩
    ·exact hk.elim
  ·split at hk
   ·rename_i T one sz0 sp0 k m c hp
    obtain⟨l,sp,nx,sz,M,hg,hk⟩:=dI hk;obtain⟨⟨rfl,hsn,hsz⟩,xs,hxs,x0,_,hx0,hk⟩:=hk;have hx0:xs[m]?=some x0:=by simpa using hx0
    have cells:∀{e':Env} {h':Heap} {g:Gh} {w:World} {a:Act},(∀t∈slotsOf o,aL e' t=aL e t)→aG h' l=aG h l→cp g w n a e' h'→
     ∃A:Nat,a.eval x=.pointer (some ⟨A,m*sz+c,none⟩)∧∃(vs:Array Value) (E:TypeId),w.heap[A]?=some (.cells vs E (0,0))∧
      ∀(i:Nat) (z:PV),x0.cells[c+i]?=some z→∃v,vs[m*sz+c+i]?=some v∧v.oneCell'=true∧aZ (bR g w) v z:=by
     intro e' h' g w a he hl s;obtain⟨_,r1⟩:=s.cN he m1 rfl;obtain⟨A,hA,hv⟩:=De r1 hp;have hst:=s.blk (hl.trans hg);obtain⟨A',hA',_,_,vs,E,hb,h0,hlen,hzz,hxx⟩:=hst.D4 hsn k xs (cW hxs);rw[hA]at hA';cases hA';refine⟨A.1,by rw[hv,Kl hsz],vs,E,hb,fun i z hz=>?_⟩;have:=hxx m x0 hx0 (c+i) z hz
     rwa [←Nat.add_assoc]at this
    split at hk
    ·rename_i hag
     split at hk
     ·rename_i l1 hl1
      obtain⟨k1,k2⟩:=fZ _ _ _ _ hl1;refine dy hd hk fun e' h' he hl g w a s=>?_;obtain⟨A,hv,vs,E,hb,hxx⟩:=cells he hl s
      have hlen:∀j,j<i.size→∃z,x0.cells[c+j]?=some z∧l1[j]?=some z:=by
       intro j hj;have:=k2 j hj;have hlt:j<l1.length:=by omega
       exact⟨l1[j],by rw[←this];simp[hlt],by simp[hlt]⟩
      have hle:i.size=0∨m*sz+c+i.size≤vs.size:=by
       rcases Nat.eq_zero_or_pos i.size with h0|h0
       ·exact .inl h0
       ·right
        obtain⟨z,hz1,_⟩:=hlen (i.size-1) (by omega);obtain⟨v,hv1,_,_⟩:=hxx _ _ hz1;have:=(Array.getElem?_eq_some_iff.1 hv1).1;omega
      have hll:((vs.toList.drop (m*sz+c)).take i.size).length=i.size:=by simp;omega
      have aG:∀(j:Nat) (v:Value),((vs.toList.drop (m*sz+c)).take i.size)[j]?=some v→j<i.size∧vs[m*sz+c+j]?=some v:=by
       intro j v hj;have hji:j<i.size:=by have:=(List.getElem?_eq_some_iff.1 hj).1;omega
       rw[List.getElem?_take,if_pos hji,List.getElem?_drop]at hj;exact⟨hji,by simpa using hj⟩
      refine⟨.agg ((vs.toList.drop (m*sz+c)).take i.size).toArray,hrun a w _ _ hv ?_,fun d _=>.p _ _ _ (.agg _ _ (hll.trans k1.symm) (fun v hv=>?_) fun j v z hj hz2=>?_)⟩
      rotate_left
      ·obtain⟨j,hj⟩:=List.getElem?_of_mem hv
       obtain⟨hji,hj'⟩:=aG j v hj;obtain⟨z',q1,q2⟩:=hlen j hji;obtain⟨v',p1,p2,_⟩:=hxx j _ q1;rw[hj']at p1;cases p1;exact p2
      rotate_left
      ·exact lB hty hi rfl _ hll (fun j v hj=>by rw[dx hb];exact(aG j v hj).2) hag
      ·obtain⟨hji,hj'⟩:=aG j v hj
       obtain⟨z',q1,q2⟩:=hlen j hji;rw[q2]at hz2;cases hz2;obtain⟨v',p1,_,p2⟩:=hxx j _ q1;rw[hj']at p1;cases p1;exact p2
     ·exact hk.elim
    ·rename_i hag
     split at hk
     ·rename_i z hz1
      refine dy hd hk fun e' h' he hl g w a s=>?_;obtain⟨A,hv,vs,E,hb,hxx⟩:=cells he hl s;obtain⟨v',p1,_,p2⟩:=hxx 0 z (by simpa using hz1);exact⟨v',hrun a w _ _ hv (fc hty hi rfl hag (by rw[dx hb];simpa using p1)),fun d _=>.p _ _ _ p2⟩
     ·exact hk.elim
   ·exact hk.elim
 ·exact hk.elim
theorem FP (hd:∀d,o.dst=some d→d<n) {x:Operand} (ho:o.op=.nilCheck x) (hk:M6 o (ev e x) K):∃f,K f∧cF P n o e h f:=by
 have m1:x∈o.op.operands:=by simp[ho,Op.operands]
 unfold M6 at hk;split at hk
 ·rename_i pv hx
  split at hk
  ·rename_i hdp
   refine aI hd hk fun e' h' he g w a s=>?_;obtain⟨_,r1⟩:=s.cN he m1 hx;have hp:=r1.pv;generalize hv:a.eval x=v at hp
   cases hp<;>first|(simp[HT]at hdp;done)|skip
   ·rename_i sp k ad C q;exact⟨_,by simp[execOp,ho,hv],fun d _=>.p _ _ _ (.bH _ _ _ _ q)⟩
   ·rename_i T o1 sz sp k m c ad C q;exact⟨_,by simp[execOp,ho,hv],fun d _=>.p _ _ _ (.pa _ _ _ _ _ _ _ _ _ q)⟩
   ·rename_i ad cs f hs hm hxx;exact⟨_,by simp[execOp,ho,hv],fun d _=>.p _ _ _ (.bx ad cs f hs hm hxx)⟩
  ·exact hk.elim
 ·exact hk.elim
theorem Ba (hty:bz P ty) (hd:∀d,o.dst=some d→d<n) {t f:Nat} {x:Operand} (ho:o.op=.fieldAddr t x f) (hk:Fo ty o t f (ev e x) K):∃f,K f∧cF P n o e h f:=by
 have m1:x∈o.op.operands:=by simp[ho,Op.operands]
 unfold Fo at hk;split at hk
 ·rename_i fd hfd
  split at hk
  ·rename_i j i hj hi
   split at hk
   ·rename_i cs hz hx
    refine aI hd hk fun e' h' he g w a s=>?_;obtain⟨_,r1⟩:=s.cN he m1 hx;generalize hv:a.eval x=v at r1
    cases r1 with
    |p _ _ _ hp=>
    cases hp with
    |bx ad _ f hs hm hxx=>
     refine⟨.pointer (some ⟨ad.block,ad.off+fd.offset,none⟩),?_,fun d _=>.vp _ _ _ (fun i=>f (fd.offset+i)) rfl (fun i y hy=>?_) (fun i y hy=>?_)⟩
     ·simp only[execOp,ho,hv,Sem.run_bind,ke hty hfd hj hz (a:=ad) hs,Result.andThen_ok,Sem.run_pure]
     ·rw[List.getElem?_drop]at hy
      have:=hm _ _ hy
      rwa [←Nat.add_assoc]at this
     ·rw[List.getElem?_drop]at hy
      exact hxx _ _ hy
   ·rename_i sp k hz hx
    refine aI hd hk fun e' h' he g w a s=>?_;obtain⟨_,r1⟩:=s.cN he m1 hx;generalize hv:a.eval x=v at r1
    cases r1 with
    |p _ _ _ hp=>
    cases hp with
    |bH _ _ ad C q=>
     refine⟨.pointer (some ⟨ad,0*i.size+fd.offset,none⟩),?_,fun d _=>.p _ _ _ (.pa _ _ _ _ _ _ _ _ _ q)⟩;have:=ke hty hfd hj hz (a:=⟨ad,0,none⟩) (w:=w) rfl;simp only[execOp,ho,hv,Sem.run_bind,this,Result.andThen_ok,Sem.run_pure,Nat.zero_mul,Nat.zero_add]
   ·rename_i T o1 sz sp k m c hz hx
    refine aI hd hk fun e' h' he g w a s=>?_;obtain⟨_,r1⟩:=s.cN he m1 hx;generalize hv:a.eval x=v at r1
    cases r1 with
    |p _ _ _ hp=>
    cases hp with
    |pa _ _ _ _ _ _ _ ad C q=>
     refine⟨.pointer (some ⟨ad,m*sz+(c+fd.offset),none⟩),?_,fun d _=>.p _ _ _ (.pa _ _ _ _ _ _ _ _ _ q)⟩;have:=ke hty hfd hj hz (a:=⟨ad,m*sz+c,none⟩) (w:=w) rfl;simp only[execOp,ho,hv,Sem.run_bind,this,Result.andThen_ok,Sem.run_pure,Nat.add_assoc]
   ·exact hk.elim
  ·exact hk.elim
 ·exact hk.elim
theorem A5 (hty:bz P ty) (hd:∀d,o.dst=some d→d<n) {x ix:Operand} {t:Nat} (ho:o.op=.indexAddr t x ix) (hk:Er ty o t (ev e x) (ev e ix) K):∃f,K f∧cF P n o e h f:=by
 have m1:x∈o.op.operands:=by simp[ho,Op.operands]
 have m2:ix∈o.op.operands:=by simp[ho,Op.operands]
 unfold Er at hk;split at hk
 ·rename_i i hi
  split at hk
  ·rename_i el hde
   have hu:=(hty t i hi).und;rw[hde]at hu;split at hk
   ·rename_i j hj
    split at hk
    ·rename_i sp k m kd q hx hix
     obtain⟨⟨h0,hlt⟩,hk⟩:=hk;refine aI hd hk fun e' h' he g w a s=>?_;obtain⟨_,r1⟩:=s.cN he m1 hx;obtain⟨_,r2⟩:=s.cN he m2 hix;generalize hv:a.eval x=v at r1
     cases r1 with
     |p _ _ _ hp=>
     cases hp with
     |jR _ _ ad _ cap hq hc=>
      refine⟨.pointer (some ⟨ad,q.toNat*j.size+0,none⟩),?_,fun d _=>.p _ _ _ (.pa _ _ _ _ _ _ _ _ _ hq)⟩;have hlt':q<(m:Int):=by omega
      simp only[execOp,ho,hv,r2.int,Instr.indexAt,asIntOf,Sem.run_bind,Sem.run_pure,Result.andThen_ok,run_underlying hu,h0,hlt',and_self,if_true,bG hty hj,Addr.add_plain,Nat.zero_add,Nat.add_zero]
    ·exact hk.elim
   ·exact hk.elim
  ·exact hk.elim
 ·exact hk.elim
theorem E7 (hty:bz P ty) (hd:∀d,o.dst=some d→d<n) {x:Operand} {t:Nat} {ts:List TypeId} (ho:o.op=.call { callee:=.builtin .len,args:=⟨[x]⟩,argTypes:=⟨t::ts⟩ })
 (hk:dLen ty o t (ev e x) K):∃f,K f∧cF P n o e h f:=by
 have m1:x∈o.op.operands:=by simp[ho,Op.operands,Call.operands]
 have hrun:∀(a:Act) (w:World) (k:Int),(∀u,(Builtin.len_ (t::ts).toArray u #[a.eval x]).run P w=.ok (.int .i64 k) w)→(execOp a.eval o).run P w=.ok (.value (.int .i64 k)) w:=by
  intro a w k hl;obtain⟨cs,hcs⟩:=cc (P:=P) ho a w;rw[hcs];simp only[builtin,List.map_cons,List.map_nil,Sem.run_bind];rw[show(⟨t::ts⟩:Array TypeId)=(t::ts).toArray from rfl,hl];rfl
 unfold dLen at hk;split at hk
 ·rename_i s k m ht hx
  obtain⟨el,hu⟩:=jz hty ht;refine aI hd hk fun e' h' he g w a s=>?_;obtain⟨_,r1⟩:=s.cN he m1 hx;generalize hv:a.eval x=v at r1
  cases r1 with
  |p _ _ _ hp=>
  cases hp with
  |jR _ _ ad _ cap hq hc=>exact⟨_,hrun a w _ (fun u=>by rw[hv];exact Cb hu (.inr ⟨⟨el,rfl⟩,some ⟨ad,0,none⟩,m,cap,rfl,rfl⟩) w),fun d _=>.p _ _ _ (.i _ _)⟩
 ·rename_i ht hx
  obtain⟨el,hu⟩:=jz hty ht;refine aI hd hk fun e' h' he g w a s=>?_;obtain⟨_,r1⟩:=s.cN he m1 hx;generalize hv:a.eval x=v at r1
  cases r1 with
  |p _ _ _ hp=>
  cases hp with
  |sj=>exact⟨_,hrun a w 0 (fun u=>by rw[hv];exact Cb hu (.inr ⟨⟨el,rfl⟩,none,0,0,rfl,rfl⟩) w),fun d _=>.p _ _ _ (.i _ _)⟩
 ·exact hk.elim
end
end Go.AM
end
section
namespace Go.AM
section
variable {P:Program} {ty:Nat→Option TI} {n:Nat} {o:Oper} {e:Env} {h:Heap} {K:AK}
theorem er.add {g g':Gh} {w w':World} {l sp nx sz:Nat} {M M':List (Nat×List PV)} {a:Nat×Nat} {xs:List PV} (h:er g w l sp nx sz M) (d:nE g w g' w' l sp) (hsub:∀p∈M',p∈M) (hnd:(M'.map (·.1)).Nodup)
 (ha:g'.σ sp nx=some a) (hσ:∀k,k≠nx→g'.σ sp k=g.σ sp k)
 (hold:∀k ys b,(k,ys)∈M'→g.σ sp k=some b→b.1≠a.1∧g'.own b.1=g.own b.1∧g'.pre b.1=g.pre b.1∧w'.heap[b.1]?=w.heap[b.1]?)
 (hown:g'.own a.1=some (.obj l)) (hpre:g'.pre a.1=0) (hb:uP g' w' a sz xs):er g' w' l sp (nx+1) sz ((nx,xs)::M'):=by
 have hnx:g.σ sp nx=none:=h.fresh nx (Nat.le_refl _)
 have hk:∀k ys,(k,ys)∈M'→k≠nx:=fun k ys q e=>by
  obtain⟨b,q1,_⟩:=h.row k ys (hsub _ q);subst e;rw[hnx]at q1;cases q1
 refine⟨by rw[d.sown];exact h.sown,fun k q=>(hσ k (by omega)).trans (h.fresh k (by omega)),fun k ys q=>?_,fun k k' ys ys' b b' q1 q2 q3 q4 q5=>?_,?_⟩
 ·rcases List.mem_cons.1 q with q|q
  ·cases q;exact⟨a,ha,hown,hpre,hb⟩
  ·obtain⟨b,p1,p2,p3,p4⟩:=h.row k ys (hsub _ q)
   obtain⟨_,r1,r2,r3⟩:=hold k ys b q p1;exact⟨b,(hσ k (hk k ys q)).trans p1,r1.trans p2,r2.trans p3,p4.mono d.bR r3 d.σ⟩
 ·rcases List.mem_cons.1 q1 with q1|q1<;>rcases List.mem_cons.1 q2 with q2|q2
  ·cases q1;cases q2;rfl
  ·cases q1
   rw[ha]at q3;cases q3;rw[hσ k' (hk k' ys' q2)]at q4;exact absurd q5.symm (hold k' ys' b' q2 q4).1
  ·cases q2
   rw[ha]at q4;cases q4;rw[hσ k (hk k ys q1)]at q3;exact absurd q5 (hold k ys b q1 q3).1
  ·rw[hσ k (hk k ys q1)]at q3
   rw[hσ k' (hk k' ys' q2)]at q4;exact h.inj k k' ys ys' b b' (hsub _ q1) (hsub _ q2) q3 q4 q5
 ·rw[List.map_cons,List.nodup_cons]
  refine⟨fun q=>?_,hnd⟩;obtain⟨p,q1,q2⟩:=List.mem_map.1 q;exact hk p.1 p.2 q1 q2
theorem A4 (hty:bz P ty) (hd:∀d,o.dst=some d→d<n) {t:Nat} (ho:o.op=.alloc t) (hk:EH ty o h t K):∃f,K f∧cF P n o e h f:=by
 unfold EH at hk;split at hk
 ·rename_i i d hi hdd
  split at hk
  ·rename_i zs hag hzs
   obtain⟨l,sp,nx,sz,M,hg,hk⟩:=dI hk;split at hk
   ·rename_i hsz hsz0
    obtain rfl:sz=i.size:=Nat.eq_of_beq_eq_true hsz;have hpos:0<i.size:=Nat.pos_of_ne_zero fun q=>by rw[q]at hsz0;cases hsz0
    refine⟨_,hk,fun e' h' he hl g w a s=>?_⟩;have hl0:aG h' l=some (.store t true sp nx i.size M):=(hl l (by simp)).trans hg;have hst:=s.blk hl0;obtain⟨inf,z,h1,h2,h3,h4,h5,h6⟩:=(hty t i hi).inf
    have hr:(execOp a.eval o).run P w=.ok (.value (.pointer (some ⟨w.heap.size,0,none⟩))) (World.push w (.cells z.cells t (0,0))):=by
     simp[execOp,ho,Instr.alloc,zeroValue,typeInfo,h1,h4,newVar,newRow];rfl
    have d1:=nE.push (g:=g) (w:=w) (l:=l) (sp:=sp) (k:=nx) (C:=1) (cs:=z.cells) (E:=t) (hst.fresh nx (Nat.le_refl _)) s.bnd;obtain⟨k1,k2⟩:=iW (g:=g.di w.heap.size 1 l sp nx) (w:=World.push w (.cells z.cells t (0,0))) (dom:=fun _=>False) _ _ _ hzs;have hzl:z.cells.size=i.size:=by rw[←h6,←h5];simp
    have hzl2:zs.length=i.size:=by rw[k1,gU,h6]
    have hblk:uP (g.di w.heap.size 1 l sp nx) (World.push w (.cells z.cells t (0,0))) (w.heap.size,1) i.size [.agg zs]:=by
     refine .inl ⟨z.cells,t,eF,hpos,⟨by simp,by rw[hzl];simp⟩,fun x hx=>by simp at hx;subst hx;exact hzl2,fun j x hj q y hy=>?_⟩;have ej:j=0:=by have:=(List.getElem?_eq_some_iff.1 hj).1;simp at this;exact this
     subst ej;simp at hj;subst hj;have hy:zs[q]?=some y:=hy;have hq:q<zs.length:=(List.getElem?_eq_some_iff.1 hy).1;have hzc:z.cells.toList[q]?=some (z.cells.toList[q]'(by simp;omega)):=List.getElem?_eq_getElem _;generalize z.cells.toList[q]'(by simp;omega)=u at hzc;refine⟨u,by simpa using hzc,(hty t i hi).one u (by rw[←h5];exact List.mem_of_getElem? hzc),?_⟩;refine k2 q u none (jE u) y ?_ hy (iC u);rw[iQ,←h5,hzc];rfl
    have hst2:=hst.add (a:=(w.heap.size,1)) (xs:=[.agg zs]) d1 (fun p hp=>hp) hst.nodup (by simp[Gh.di]) (fun k hk=>by simp[Gh.di,hk]) (fun k ys b q1 q2=>by
     obtain⟨b',p1,p2,_⟩:=hst.row k ys q1;rw[q2]at p1;cases p1;have hlt:=s.bnd _ _ p2;have hne:b.1≠w.heap.size:=by omega
     exact⟨hne,by simp[Gh.di,hne],by simp[Gh.di,hne],cD hlt⟩) (by simp[Gh.di]) (by simp[Gh.di]) hblk
    obtain⟨s2,hE⟩:=s.dyn hl0 d1 hst2;refine Oper.cj hr ⟨_,?_,hE⟩;rw[hdd];exact s2.put (hd d hdd) (.p _ _ _ (.bH sp nx w.heap.size 1 (by simp[bR,Gh.di])))
   ·exact hk.elim
  ·exact hk.elim
 ·exact hk.elim
theorem Bt (hty:bz P ty) (hd:∀d,o.dst=some d→d<n) {t:Nat} {x u:Operand} (ho:o.op=.slice t x none (some u) none) (hk:EI ty o e t (ev e x) u K):∃f,K f∧cF P n o e h f:=by
 have m1:x∈o.op.operands:=by simp[ho,Op.operands]
 have m3:u∈o.op.operands:=by simp[ho,Op.operands]
 unfold EI at hk;split at hk
 ·rename_i i hi'
  have hu:=(hty t i hi').und;split at hk
  ·rename_i el hde
   rw[hde]at hu;split at hk
   ·rename_i j sp k m kk q hj hx huu
    obtain⟨⟨h0,h1⟩,hk⟩:=hk;refine aI hd hk fun e' h' he g w a s=>?_;obtain⟨_,r1⟩:=s.cN he m1 hx;obtain⟨_,ru⟩:=s.cN he m3 huu;generalize hval':a.eval x=v at r1
    cases r1 with
    |p _ _ _ hp=>
    cases hp with
    |jR _ _ ad _ cap hq hc=>
     have hb:=dN (P:=P) (isS:=true) (len:=m) (cap:=cap) (lo:=none) (hi:=some (a.eval u)) (l:=0) (u:=q) (.inl ⟨rfl,rfl⟩) (.inr ⟨kk,by rw[ru.int]⟩) (by omega) h0 (by omega) w;refine⟨.slice (some ⟨ad,0,none⟩) q.toNat cap,?_,fun d _=>.p _ _ _ (.jR sp k ad q.toNat cap hq (by omega))⟩;simp only[execOp,ho,hval',Instr.sliceAt,Sem.run_bind,run_underlying hu,Result.andThen_ok,Instr.slice,Option.map_none,Option.map_some,hb,bG hty hj,Sem.run_pure]
     congr 3
     by_cases hc0:cap=0
     ·subst hc0;simp
     ·have e1:¬(cap=(0:Int).toNat):=by simpa using hc0
      simp[Addr.add_plain,hc0]
   ·exact hk.elim
  ·exact hk.elim
 ·exact hk.elim
end
end Go.AM
end
