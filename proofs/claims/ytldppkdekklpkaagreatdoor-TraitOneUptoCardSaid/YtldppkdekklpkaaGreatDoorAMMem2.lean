/- Part of a machine over plain values. No conditions. -/
import Derived.Test.YtldppkdekklpkaaGreatDoorAMCall
set_option linter.all false
section
namespace Go.AM
section
variable {P:Program} {ty:Nat→Option TI} {n:Nat} {o:Oper} {e:Env} {h:Heap} {K:AK}
mutual
def AV.ren (σ:Nat→Nat):AV→AV
 |.agg cs=>.agg (AV.rens σ cs)
 |.tup cs=>.tup (AV.rens σ cs)
 |.fn f a b=>.fn f (AV.rens σ a) (AV.rens σ b)
 |.ptr l off=>.ptr (σ l) off
 |.mp l=>.mp (σ l)
 |.ar l=>.ar (σ l)
 |.ap l i=>.ap (σ l) i
 |.al st l sz m=>.al st (σ l) sz m
 |.ep l sz i k=>.ep (σ l) sz i k
 |.tl l sz i k=>.tl (σ l) sz i k
 |v=>v
def AV.rens (σ:Nat→Nat):List AV→List AV
 | []=>[]
 |v::r=>AV.ren σ v::AV.rens σ r
end
theorem rens_get (σ:Nat→Nat):∀(xs:List AV) (j:Nat),(AV.rens σ xs)[j]?=(xs[j]?).map (AV.ren σ)
 | [],j=>by simp[AV.rens]
 |x::r,0=>by simp[AV.rens]
 |x::r,j+1=>by simp[AV.rens,rens_get σ r j]
theorem rens_length (σ:Nat→Nat) (xs:List AV):(AV.rens σ xs).length=xs.length:=by
 induction xs with
 |nil=>rfl
 |cons x r ih=>simp[AV.rens,ih]
def AObj.ren (σ:Nat→Nat):AObj→AObj
 |.cells cs=>.cells (AV.rens σ cs)
 |x=>x
theorem AObj.solid_ren (σ:Nat→Nat) (x:AObj):(x.ren σ).solid=x.solid:=by cases x<;>rfl
theorem VRel.ren {g g2:Gh} {w:World} {dom dom2:Nat→Prop} (σ:Nat→Nat) (d:Nat→Bool) (hi:∀b o v,imm g w b o=some v→imm g2 w b o=some v)
 (hd:∀l,dom l→d l=true→dom2 (σ l)∧g2.ρ (σ l)=g.ρ l) {ow ow2:Option Owner} (ho:∀o b,ow=some o→g.own b=some o→∃o2,ow2=some o2∧g2.own b=some o2∧g2.pre b=g.pre b)
 {v:Value} {x:AV} (r:VRel g w dom ow v x) (hx:x.within d=true) (hsg:∀s k a,g.σ s k=some a→g2.σ s k=some a:=by exact fun _ _ _ q=>q):VRel g2 w dom2 ow2 v (x.ren σ):=by
 induction r generalizing ow2 with
 |top ow v=>exact .top _ _
 |p ow v x h=>exact .p _ _ _ (h.mono hi hsg)
 |c ow v h1=>exact .c _ _ h1
 |nilS ow=>exact .nilS _
 |es ow a cap sz hs=>exact .es _ a cap sz hs
 |full ow a sz xs hz h=>exact .full _ a sz xs hz (h.mono hi hsg)
 |own o a cap sz xs cs E hz h hw hp hb hs=>
  obtain⟨o2,rfl,h2,h3⟩:=ho o a.block rfl hw;exact .own o2 a cap sz xs cs E hz (h.mono hi hsg) h2 (h3.trans hp) hb hs
 |ptr ow l off h=>
  obtain⟨h1,h2⟩:=hd l h (by simpa[AV.within] using hx);rw[←h2];exact .ptr _ _ off h1
 |vp ow a cs f hs hm hxx=>exact .vp _ a cs f hs (fun i y h=>⟨hi _ _ _ (hm i y h).1,(hm i y h).2⟩) (fun i y h=>(hxx i y h).mono hi hsg)
 |agg ow vs cs hl h1 _ ih=>
  refine .agg _ vs _ (by rw[rens_length];exact hl) h1 (fun j v c q1 q2=>?_);rw[rens_get]at q2
  cases hq:cs[j]? with
  |none=>simp[hq]at q2
  |some c0=>
   simp only[hq,Option.map_some,Option.some.injEq]at q2;subst q2;exact ih j v c0 q1 hq (fun _ _ h=>by cases h) (withins_get d cs (by simpa[AV.within] using hx) j c0 hq)
 |tup ow vs cs hl _ ih=>
  refine .tup _ vs _ (by rw[rens_length];exact hl) (fun j v c q1 q2=>?_);rw[rens_get]at q2
  cases hq:cs[j]? with
  |none=>simp[hq]at q2
  |some c0=>
   simp only[hq,Option.map_some,Option.some.injEq]at q2;subst q2;exact ih j v c0 q1 hq (fun _ _ h=>by cases h) (withins_get d cs (by simpa[AV.within] using hx) j c0 hq)
 |mp ow l h=>obtain⟨h1,h2⟩:=hd l h (by simpa[AV.within] using hx);rw[←h2];exact .mp _ _ h1
 |ar ow l m h hn=>
  obtain⟨h1,h2⟩:=hd l h (by simpa[AV.within] using hx);rw[←h2]at hn ⊢;exact .ar _ _ m h1 hn
 |ap ow l i h=>obtain⟨h1,h2⟩:=hd l h (by simpa[AV.within] using hx);rw[←h2];exact .ap _ _ i h1
 |ifc ow b v h=>exact .ifc _ b v h
 |al0 ow l sz h=>exact .al0 _ _ sz (hd l h (by simpa[AV.within] using hx)).1
 |al ow st l sz m cap h h0 hc hn=>
  obtain⟨h1,h2⟩:=hd l h (by simpa[AV.within] using hx);rw[←h2]at hn ⊢;exact .al _ _ _ sz m cap h1 h0 hc hn
 |ep ow l sz i c h=>obtain⟨h1,h2⟩:=hd l h (by simpa[AV.within] using hx);rw[←h2];exact .ep _ _ sz i c h1
 |tl ow a l sz i m cap h ha hn=>
  obtain⟨h1,h2⟩:=hd l h (by simpa[AV.within] using hx);rw[←h2]at hn ha;exact .tl _ a _ sz i m cap h1 ha hn
 |fn ow f fs cs first caps h1 h2 _ _ ih1 ih2=>
  have hx:AV.withins d first=true∧AV.withins d caps=true:=by simpa[AV.within] using hx
  refine .fn _ f fs cs _ _ (by rw[rens_length];exact h1) (by rw[rens_length];exact h2) (fun j v c q1 q2=>?_) (fun j v c q1 q2=>?_)
  ·rw[rens_get]at q2
   cases hq:first[j]? with
   |none=>simp[hq]at q2
   |some c0=>
    simp only[hq,Option.map_some,Option.some.injEq]at q2;subst q2;exact ih1 j v c0 q1 hq (fun _ _ h=>by cases h) (withins_get d first hx.1 j c0 hq)
  ·rw[rens_get]at q2
   cases hq:caps[j]? with
   |none=>simp[hq]at q2
   |some c0=>
    simp only[hq,Option.map_some,Option.some.injEq]at q2;subst q2;exact ih2 j v c0 q1 hq (fun _ _ h=>by cases h) (withins_get d caps hx.2 j c0 hq)
mutual
theorem within_all (d:Nat→Bool) (hd:∀l,d l=true):∀(x:AV),x.within d=true
 |.agg cs=>by simp only[AV.within];exact withins_all d hd cs
 |.tup cs=>by simp only[AV.within];exact withins_all d hd cs
 |.fn f a b=>by simp only[AV.within,Bool.and_eq_true];exact⟨withins_all d hd a,withins_all d hd b⟩
 |.ptr l off=>by simp[AV.within,hd]
 |.mp l=>by simp[AV.within,hd]
 |.ar l=>by simp[AV.within,hd]
 |.ap l i=>by simp[AV.within,hd]
 |.al _ l _ _=>by simp[AV.within,hd]
 |.ep l _ _ _=>by simp[AV.within,hd]
 |.tl l _ _ _=>by simp[AV.within,hd]
 |.ifc _=>rfl
 |.top=>rfl
 |.p _=>rfl
 |.c _=>rfl
 |.nilS=>rfl
 |.es _=>rfl
 |.so _ _=>rfl
 |.vp _=>rfl
theorem withins_all (d:Nat→Bool) (hd:∀l,d l=true):∀(xs:List AV),AV.withins d xs=true
 | []=>rfl
 |x::r=>by simp only[AV.withins,Bool.and_eq_true];exact⟨within_all d hd x,withins_all d hd r⟩
end
def toBig:List Nat→Nat→Nat→Nat
 | [],_,l=>l
 |x::r,k,l=>match Nat.beq x l with|true=>bigId+k|false=>toBig r (k+1) l
def ofBig (R:List Nat) (B:Nat) (l:Nat):Nat:=match Nat.ble bigId l with|true=>R.getD (l-bigId) 0|false=>B+l
def subH (h:Heap) (σ:Nat→Nat) (d:Nat→Bool):List Nat→Nat→Option Heap
 | [],_=>some []
 |x::r,k=>match hget h x with
  |some ob=>match ob.within d,subH h σ d r (k+1) with
   |true,some hh=>some ((bigId+k,ob.ren σ)::hh)
   |_,_=>none
  |none=>none
def nodupB:List Nat→Bool
 | []=>true
 |x::r=>!(memB r x)&&nodupB r
def keysOf:Heap→List Nat
 | []=>[]
 |(l,_)::r=>l::keysOf r
def newCk (h:Heap) (B m:Nat):List Nat→Bool
 | []=>true
 |l::r=>(match Nat.ble bigId l with|true=>Nat.blt (l-bigId) m|false=>freshId h (B+l))&&newCk h B m r
def allKeys (ks:List Nat):Nat→Bool
 |0=>true
 |k+1=>memB ks (bigId+k)&&allKeys ks k
def backH (R:List Nat) (B:Nat):Heap→Heap
 | []=>[]
 |(l,x)::r=>(ofBig R B l,x.ren (ofBig R B))::backH R B r
def globB (hs:Heap):Heap→Bool
 | []=>true
 |(l,ob)::r=>(match ob with
  |.glob b _=>(match hget hs l with|some (.glob b' _)=>Nat.beq b b'|_=>false)
  |_=>true)&&globB hs r
theorem globB_get {hs:Heap}:∀{h':Heap},globB hs h'=true→∀{l b:Nat} {vs:List Value},hget h' l=some (.glob b vs)→∃vs',hget hs l=some (.glob b vs')
 | [],_,l,b,vs,hl=>by simp[hget]at hl
 |(k,ob)::r,hg,l,b,vs,hl=>by
  simp only[globB,Bool.and_eq_true]at hg
  by_cases e1:k=l
  ·subst e1
   rw[hget_self]at hl;cases hl;have h1:=hg.1;simp only at h1;split at h1
   ·rename_i b' vs' hq
    have:=Nat.eq_of_beq_eq_true h1;subst this;exact⟨vs',hq⟩
   ·cases h1
  ·rw[hget_ne e1]at hl
   exact globB_get hg.2 hl
def AMem (P:Program) (f:Nat) (args:List AV) (hs:Heap) (r:AV) (h':Heap):Prop:=
 (hasBody P f∧globB hs h'=true)∧∀(g:Gh) (w:World) (vs:List Value),HRel g w hs→(∀b ow,g.own b=some ow→b<w.heap.size)→vs.length=args.length→(∀(j:Nat) (v:Value) (x:AV),vs[j]?=some v→args[j]?=some x→VRel g w (domOf hs) none v x)→
   Calls P f vs.toArray w fun en w'=>∃v g',en=.returned v∧VRel g' w' (domOf h') (some .ret) v r∧HRel g' w' h'∧(∀b ow,g'.own b=some ow→b<w'.heap.size)∧Ext g w g' w'
def borPV (R:List Nat) (h:Heap):AV→Option PV
 |.p x=>some x
 |.so sz xs=>some (.sl sz xs)
 |.es sz=>some (.sl sz [])
 |.ar l=>match memB R l,hget h l with|true,some (.arr xs)=>some (.sl 1 xs)|_,_=>none
 |.al _ l sz _=>match memB R l,hget h l with|true,some (.gr _ sz' xs)=>(match Nat.beq sz sz' with|true=>some (.sl sz xs)|false=>none)|_,_=>none
 |_=>none
def borCells (R:List Nat) (h:Heap):List AV→Option (List PV)
 | []=>some []
 |v::r=>match borPV R h v,borCells R h r with|some x,some l=>some (x::l)|_,_=>none
def AV.ifFree (v:AV):Option AV:=match v.free with|true=>some v|false=>none
mutual
def AV.bor (R:List Nat) (h:Heap):AV→Option AV
 |.ptr l off=>match memB R l,hget h l with
  |true,some (.cells cs)=>match borCells R h cs with|some ps=>some (.vp (ps.drop off))|none=>none
  |_,_=>none
 |.ar l=>match memB R l,hget h l with|true,some (.arr xs)=>some (.p (.sl 1 xs))|_,_=>none
 |.al _ l sz _=>match memB R l,hget h l with|true,some (.gr _ sz' xs)=>(match Nat.beq sz sz' with|true=>some (.p (.sl sz xs))|false=>none)|_,_=>none
 |.fn f a b=>match AV.bors R h a,AV.bors R h b with|some a',some b'=>some (.fn f a' b')|_,_=>none
 |.tup cs=>match AV.bors R h cs with|some l=>some (.tup l)|none=>none
 |.agg cs=>match borCells R h cs with|some l=>some (.p (.agg l))|none=>(AV.agg cs).ifFree
 |v=>v.ifFree
def AV.bors (R:List Nat) (h:Heap):List AV→Option (List AV)
 | []=>some []
 |v::r=>match AV.bor R h v,AV.bors R h r with|some x,some l=>some (x::l)|_,_=>none
end
def borEqP (R:List Nat) (h:Heap):AV→List (Nat×Nat)
 |.al _ l _ m=>match memB R l,hget h l with|true,some (.gr _ _ xs)=>[(m,xs.length)]|_,_=>[]
 |_=>[]
def borEqC (R:List Nat) (h:Heap):List AV→List (Nat×Nat)
 | []=>[]
 |v::r=>borEqP R h v++borEqC R h r
mutual
def AV.borEq (R:List Nat) (h:Heap):AV→List (Nat×Nat)
 |.ptr l _=>match memB R l,hget h l with
  |true,some (.cells cs)=>borEqC R h cs
  |_,_=>[]
 |.al st l sz m=>borEqP R h (.al st l sz m)
 |.fn _ a b=>AV.borEqs R h a++AV.borEqs R h b
 |.tup cs=>AV.borEqs R h cs
 |.agg cs=>borEqC R h cs
 |_=>[]
def AV.borEqs (R:List Nat) (h:Heap):List AV→List (Nat×Nat)
 | []=>[]
 |v::r=>AV.borEq R h v++AV.borEqs R h r
end
def eqsOK:List (Nat×Nat)→Prop
 | []=>True
 |(a,b)::r=>a=b∧eqsOK r
theorem eqsOK_app:∀{a b:List (Nat×Nat)},eqsOK (a++b)↔eqsOK a∧eqsOK b
 | [],b=>by simp[eqsOK]
 |(x,y)::r,b=>by simp[eqsOK,eqsOK_app (a:=r) (b:=b),and_assoc]
theorem eqsOK_C {R:List Nat} {h:Heap}:∀{cs:List AV},eqsOK (borEqC R h cs)→∀(j:Nat) (c:AV),cs[j]?=some c→eqsOK (borEqP R h c)
 | [],_,j,c,hc=>by simp at hc
 |v::r,hh,0,c,hc=>by simp at hc;subst hc;exact(eqsOK_app.1 hh).1
 |v::r,hh,j+1,c,hc=>eqsOK_C (eqsOK_app.1 hh).2 j c (by simpa using hc)
theorem eqsOK_V {R:List Nat} {h:Heap}:∀{cs:List AV},eqsOK (AV.borEqs R h cs)→∀(j:Nat) (c:AV),cs[j]?=some c→eqsOK (AV.borEq R h c)
 | [],_,j,c,hc=>by simp at hc
 |v::r,hh,0,c,hc=>by simp at hc;subst hc;rw[AV.borEqs]at hh;exact(eqsOK_app.1 hh).1
 |v::r,hh,j+1,c,hc=>by rw[AV.borEqs]at hh;exact eqsOK_V (eqsOK_app.1 hh).2 j c (by simpa using hc)
def flatP:PV→Bool
 |.b _=>true
 |.i _ _=>true
 |.s _=>true
 |_=>false
def flatV:AV→Bool
 |.p x=>flatP x
 |.tup vs=>vs.all fun v=>match v with|.p x=>flatP x|_=>false
 |_=>false
def roOK (R:List Nat) (h:Heap):Heap→Prop
 | []=>True
 |(l,x)::r=>memB R l=true∧hget h l=some x∧roOK R h r
theorem roOK_mem {R:List Nat} {h:Heap}:∀{L:Heap},roOK R h L→∀p∈L,memB R p.1=true∧hget h p.1=some p.2
 | [],_,p,hp=>by cases hp
 |(l,x)::r,hh,p,hp=>by
  rcases List.mem_cons.1 hp with rfl|hp
  ·exact⟨hh.1,hh.2.1⟩
  ·exact roOK_mem hh.2.2 p hp
inductive pcall (P:Program) (f:Nat) (args:List AV) (h:Heap) (K:List Nat→Heap→AV→Prop):Prop
 |pure (r:AV) (hf:AV.frees args=true) (s:APure P f args r) (hk:K [] [] r)
 |bor (R:List Nat) (bargs:List AV) (r:AV) (hb:AV.bors R h args=some bargs) (s:APure P f bargs r) (hf:flatV r=true) (hk:K R [] r) (hq:eqsOK (AV.borEqs R h args))
 |mem (R:List Nat) (B:Nat) (hs:Heap) (r:AV) (h':Heap) (h1:(AV.withins (memB R) args&&nodupB R)=true) (h2:subH h (toBig R 0) (memB R) R 0=some hs) (s:AMem P f (AV.rens (toBig R 0) args) hs r h')
  (h3:(nodupB (keysOf h')&&newCk h B R.length (keysOf h')&&allKeys (keysOf h') R.length)=true) (hk:K R (backH R B h') (r.ren (ofBig R B)))
 |ro (R:List Nat) (B:Nat) (hs:Heap) (r:AV) (h':Heap) (h1:(AV.withins (memB R) args&&nodupB R)=true) (h2:subH h (toBig R 0) (memB R) R 0=some hs) (s:AMem P f (AV.rens (toBig R 0) args) hs r h')
  (h3:(nodupB (keysOf h')&&newCk h B R.length (keysOf h')&&allKeys (keysOf h') R.length)=true) (hro:roOK R h (backH R B h')) (hk:K R [] (r.ren (ofBig R B)))
end
end Go.AM
end
section
namespace Go.AM
section
variable {P:Program} {ty:Nat→Option TI} {n:Nat} {o:Oper} {e:Env} {h:Heap} {K:AK}
theorem memB_iff (l:List Nat) (i:Nat):memB l i=true↔i∈l:=by
 refine⟨memB_mem l i,fun hi=>?_⟩
 induction l with
 |nil=>cases hi
 |cons x r ih=>
  simp only[memB]
  by_cases q:x=i
  ·subst q;simp
  ·rw[beq_false q]
   rcases List.mem_cons.1 hi with rfl|hi
   ·exact absurd rfl q
   ·exact ih hi
theorem nodupB_spec:∀{R:List Nat},nodupB R=true→R.Nodup
 | [],_=>List.nodup_nil
 |x::r,h=>by
  simp only[nodupB,Bool.and_eq_true,Bool.not_eq_true']at h;refine List.nodup_cons.2 ⟨fun hm=>?_,nodupB_spec h.2⟩;rw[(memB_iff r x).2 hm]at h;cases h.1
theorem toBig_get:∀(R:List Nat) (k j l:Nat),R.Nodup→R[j]?=some l→toBig R k l=bigId+(k+j)
 | [],k,j,l,_,hj=>by simp at hj
 |x::r,k,0,l,_,hj=>by simp at hj;subst hj;simp[toBig]
 |x::r,k,j+1,l,hn,hj=>by
  simp at hj;have hne:x≠l:=fun q=>by subst q;exact(List.nodup_cons.1 hn).1 (List.mem_of_getElem? hj)
  simp only[toBig,beq_false hne];rw[toBig_get r (k+1) j l (List.nodup_cons.1 hn).2 hj];omega
theorem subH_spec {σ:Nat→Nat} {d:Nat→Bool}:∀(R:List Nat) (k:Nat) (hs:Heap),subH h σ d R k=some hs→
 (∀x ob,hget hs x=some ob→∃j l ob0,x=bigId+(k+j)∧R[j]?=some l∧hget h l=some ob0∧ob0.within d=true∧ob=ob0.ren σ)∧
 (∀(j l:Nat),R[j]?=some l→∃ob0,hget h l=some ob0∧hget hs (bigId+(k+j))=some (ob0.ren σ))
 | [],k,hs,hh=>by
   simp[subH]at hh;subst hh;exact⟨fun x ob q=>by simp[hget]at q,fun j l q=>by simp at q⟩
 |x0::r,k,hs,hh=>by
  simp only[subH]at hh;split at hh
  ·rename_i ob0 hob
   split at hh
   ·rename_i h1 hw hs1
    cases hh;obtain⟨i1,i2⟩:=subH_spec r (k+1) h1 hs1;refine⟨fun x ob q=>?_,fun j l q=>?_⟩
    ·by_cases e1:bigId+k=x
     ·subst e1;rw[hget_self]at q;cases q
      exact⟨0,x0,ob0,by omega,rfl,hob,hw,rfl⟩
     ·rw[hget_ne e1]at q
      obtain⟨j,l,ob1,q1,q2,q3,q4,q5⟩:=i1 x ob q;exact⟨j+1,l,ob1,by omega,by simpa using q2,q3,q4,q5⟩
    ·cases j with
     |zero=>simp at q;subst q;exact⟨ob0,hob,by rw[Nat.add_zero,hget_self]⟩
     |succ j=>
      simp at q;obtain⟨ob1,q1,q2⟩:=i2 j l q;refine⟨ob1,q1,?_⟩;rw[hget_ne (by omega),←q2];congr 1;omega
   ·cases hh
  ·cases hh
theorem hget_none_of:∀(L:Heap) (x:Nat),x∉keysOf L→hget L x=none
 | [],x,_=>rfl
 |(k,v)::r,x,hx=>by
  simp only[keysOf,List.mem_cons,not_or]at hx;rw[hget_ne (fun q=>hx.1 q.symm)];exact hget_none_of r x hx.2
theorem hget_key:∀(L:Heap) (x:Nat) (ob:AObj),hget L x=some ob→x∈keysOf L
 | [],x,ob,hx=>by simp[hget]at hx
 |(k,v)::r,x,ob,hx=>by
  simp only[keysOf,List.mem_cons]
  by_cases q:k=x
  ·exact .inl q.symm
  ·rw[hget_ne q]at hx;exact .inr (hget_key r x ob hx)
theorem hget_of_key:∀(L:Heap) (x:Nat),x∈keysOf L→∃ob,hget L x=some ob
 | [],x,hx=>by cases hx
 |(k,v)::r,x,hx=>by
  by_cases q:k=x
  ·subst q;exact⟨v,hget_self _ _ _⟩
  ·rw[hget_ne q]
   simp only[keysOf,List.mem_cons]at hx;rcases hx with rfl|hx
   ·exact absurd rfl q
   ·exact hget_of_key r x hx
theorem hget_rev_append:∀(L H:Heap) (x:Nat),(keysOf L).Nodup→hget (L.reverse++H) x=match hget L x with|some ob=>some ob|none=>hget H x
 | [],H,x,_=>rfl
 |(k,v)::r,H,x,hn=>by
  simp only[keysOf]at hn;rw[List.reverse_cons,List.append_assoc,hget_rev_append r _ x (List.nodup_cons.1 hn).2]
  by_cases q:k=x
  ·subst q
   rw[hget_none_of r k (List.nodup_cons.1 hn).1,hget_self];show hget ((k,v)::H) k=some v;rw[hget_self]
  ·rw[hget_ne q]
   cases hget r x with
   |some ob=>rfl
   |none=>show hget ((k,v)::H) x=hget H x;rw[hget_ne q]
theorem newCk_mem {B m:Nat}:∀(ks:List Nat),newCk h B m ks=true→∀l∈ks,(bigId≤l∧l-bigId<m)∨(l<bigId∧freshId h (B+l)=true)
 | [],_,l,hl=>by cases hl
 |k::r,hc,l,hl=>by
  simp only[newCk,Bool.and_eq_true]at hc;rcases List.mem_cons.1 hl with rfl|hl
  ·have h1:=hc.1
   split at h1
   ·rename_i q
    left;exact⟨by rw[Nat.ble_eq]at q;exact q,by rw[Nat.blt_eq]at h1;exact h1⟩
   ·rename_i q
    right
    refine⟨?_,h1⟩;rcases Nat.lt_or_ge l bigId with q'|q'
    ·exact q'
    ·rw[Nat.ble_eq_true_of_le q']at q;cases q
  ·exact newCk_mem r hc.2 l hl
theorem allKeys_mem {ks:List Nat}:∀(m:Nat),allKeys ks m=true→∀k,k<m→bigId+k∈ks
 |0,_,k,hk=>by omega
 |m+1,hc,k,hk=>by
  simp only[allKeys,Bool.and_eq_true]at hc
  by_cases q:k=m
  ·subst q;exact memB_mem _ _ hc.1
  ·exact allKeys_mem m hc.2 k (by omega)
theorem keysOf_back {R:List Nat} {B:Nat}:∀(L:Heap),keysOf (backH R B L)=(keysOf L).map (ofBig R B)
 | []=>rfl
 |(k,v)::r=>by simp[backH,keysOf,keysOf_back r]
theorem nodup_map_inj {f:Nat→Nat}:∀(l:List Nat),l.Nodup→(∀a∈l,∀b∈l,f a=f b→a=b)→(l.map f).Nodup
 | [],_,_=>List.nodup_nil
 |x::r,hn,hi=>by
  refine List.nodup_cons.2 ⟨fun hm=>?_,nodup_map_inj r (List.nodup_cons.1 hn).2 (fun a ha b hb=>hi a (by simp[ha]) b (by simp[hb]))⟩;obtain⟨y,hy,he⟩:=List.mem_map.1 hm;have:=hi y (by simp[hy]) x (by simp) he;subst this;exact(List.nodup_cons.1 hn).1 hy
theorem hget_back {R:List Nat} {B:Nat}:∀(L:Heap) (x:Nat) (ob:AObj),hget (backH R B L) x=some ob→∃l ob0,l∈keysOf L∧x=ofBig R B l∧((∀a∈keysOf L,∀b∈keysOf L,ofBig R B a=ofBig R B b→a=b)→hget L l=some ob0∧ob=ob0.ren (ofBig R B))
 | [],x,ob,hx=>by simp[backH,hget]at hx
 |(k,v)::r,x,ob,hx=>by
  simp only[backH]at hx
  by_cases q:ofBig R B k=x
  ·subst q
   rw[hget_self]at hx;cases hx;exact⟨k,v,by simp[keysOf],rfl,fun _=>⟨hget_self _ _ _,rfl⟩⟩
  ·rw[hget_ne q]at hx
   obtain⟨l,ob0,h1,h2,h3⟩:=hget_back r x ob hx;refine⟨l,ob0,by simp[keysOf,h1],h2,fun hi=>?_⟩;have hkl:k≠l:=fun e1=>by subst e1;exact q h2.symm
   rw[hget_ne hkl];exact h3 (fun a ha b hb=>hi a (by simp[keysOf,ha]) b (by simp[keysOf,hb]))
def lendOwn (R:List Nat):Option Owner→Option Owner
 |some (.obj l)=>if l∈R then some (.obj (toBig R 0 l)) else none
 |some (.cell l j)=>if l∈R then some (.cell (toBig R 0 l) j) else none
 |_=>none
def backOwn (R:List Nat) (B d:Nat) (h':Heap):Option Owner→Option Owner
 |some (.obj l)=>if l∈keysOf h' then some (.obj (ofBig R B l)) else none
 |some (.cell l j)=>if l∈keysOf h' then some (.cell (ofBig R B l) j) else none
 |some .ret=>some (.slot d)
 |_=>none
def lendS (R:List Nat):Option Nat→Option Nat
 |some l=>if l∈R then some (toBig R 0 l) else none
 |none=>none
def Gh.lend (g:Gh) (R:List Nat):Gh:={ pre:=g.pre,own:=fun b=>lendOwn R (g.own b),ρ:=fun l=>g.ρ (R.getD (l-bigId) 0),σ:=g.σ,sown:=fun s=>lendS R (g.sown s) }
theorem getD_of {R:List Nat} {j l:Nat} (h:R[j]?=some l):R.getD j 0=l:=by simp[List.getD,h]
theorem VRel.lend {g:Gh} {w:World} {R:List Nat} {hs:Heap} (hn:R.Nodup) (hsub:subH h (toBig R 0) (memB R) R 0=some hs) {ow ow2:Option Owner} (ho:∀q,ow=some q→ow2=lendOwn R (some q)∧ow2≠none) {v:Value} {x:AV} (r:VRel g w (domOf h) ow v x) (hx:x.within (memB R)=true):
 VRel (g.lend R) w (domOf hs) ow2 v (x.ren (toBig R 0)):=by
 obtain⟨s1,s2⟩:=subH_spec R 0 hs hsub;refine VRel.ren (g:=g) (g2:=g.lend R) (toBig R 0) (memB R) (fun _ _ _ q=>q) (fun l _ hl=>?_) (fun q b e1 e2=>?_) r hx
 ·obtain⟨j,hj⟩:=List.getElem?_of_mem (memB_mem R l hl)
  rw[toBig_get R 0 j l hn hj];obtain⟨ob0,q1,q2⟩:=s2 j l hj;refine⟨by unfold domOf;rw[q2];rfl,?_⟩;show g.ρ (R.getD (bigId+(0+j)-bigId) 0)=g.ρ l;rw[show bigId+(0+j)-bigId=j by omega,getD_of hj]
 ·obtain⟨h1,h2⟩:=ho q e1
  cases hq:ow2 with
  |none=>exact absurd hq h2
  |some q2=>
   refine⟨q2,rfl,?_,rfl⟩;show lendOwn R (g.own b)=some q2;rw[e2,←h1,hq]
theorem HRel.lend {g:Gh} {w:World} {R:List Nat} {hs:Heap} (hr:HRel g w h) (hn:R.Nodup) (hsub:subH h (toBig R 0) (memB R) R 0=some hs):HRel (g.lend R) w hs:=by
 obtain⟨s1,s2⟩:=subH_spec R 0 hs hsub
 have ρe:∀{j l:Nat},R[j]?=some l→(g.lend R).ρ (bigId+(0+j))=g.ρ l:=fun {j l} hj=>by
  show g.ρ (R.getD (bigId+(0+j)-bigId) 0)=g.ρ l;rw[show bigId+(0+j)-bigId=j by omega,getD_of hj]
 refine⟨fun x ob hx=>?_,fun x ob hx hs=>?_,fun x ob hx hs=>?_⟩
 ·obtain⟨j,l,ob0,rfl,q2,q3,q4,rfl⟩:=s1 x ob hx
  have hm:l∈R:=List.mem_of_getElem? q2
  cases hr.obj l ob0 q3 with
  |cells cs vs E hb hl hxx h1=>
   refine .cells _ vs E (by rw[ρe q2];exact hb) (by rw[rens_length];exact hl) (fun i v c q5 q6=>?_) h1;rw[rens_get]at q6
   cases hq:cs[i]? with
   |none=>simp[hq]at q6
   |some c0=>
    simp only[hq,Option.map_some,Option.some.injEq]at q6;subst q6;refine VRel.lend hn hsub (fun q e1=>?_) (hxx i v c0 q5 hq) (withins_get _ cs (by simpa[AObj.within] using q4) i c0 hq);cases e1;simp[lendOwn,hm,toBig_get R 0 j l hn q2]
  |arr xs vs E hb hl hxx h1=>exact .arr xs vs E (by rw[ρe q2];exact hb) hl hxx h1
  |map kd xs es clock hb hxx hc=>exact .map kd xs es clock (by rw[ρe q2];exact hb) hxx hc
  |gr st sz xs hg=>exact .gr st sz xs fun q=>(hg q).mono (fun _ _ _ hv=>hv) (fun _ _ hv=>by rw[ρe q2];exact hv)
  |dead=>exact .dead
  |bld T E2 bs2 hbl=>exact ORel.bldM hbl (ρe q2) rfl (fun bb hb2=>⟨by show lendOwn R (g.own bb)=_;rw[hb2];simp[lendOwn,hm,toBig_get R 0 j l hn q2],rfl,rfl⟩)
  |store T3 o3 sp3 nx3 z3 M3 hst=>exact .store T3 o3 sp3 nx3 z3 M3 (hst.mono (fun _ _ _ q=>q) (fun bb hb2=>⟨by show lendOwn R (g.own bb)=_;rw[hb2];simp[lendOwn,hm,toBig_get R 0 j l hn q2],rfl,rfl⟩) (by show lendS R (g.sown sp3)=_;rw[hst.sown];simp[lendS,hm,toBig_get R 0 j l hn q2]))
  |glob gb gvs hgl=>exact ORel.globM hgl (fun h1 _ _=>⟨rfl,by show lendOwn R (g.own gb)=none;rw[h1];rfl⟩)
 ·obtain⟨j,l,ob0,rfl,q2,q3,q4,rfl⟩:=s1 x ob hx
  have hm:l∈R:=List.mem_of_getElem? q2;rw[ρe q2];show lendOwn R (g.own (g.ρ l))=_;rw[hr.own l ob0 q3 (by rw[←AObj.solid_ren];exact hs)];simp[lendOwn,hm,toBig_get R 0 j l hn q2]
 ·obtain⟨j,l,ob0,rfl,q2,q3,q4,rfl⟩:=s1 x ob hx
  rw[ρe q2];exact hr.pre l ob0 q3 (by rw[←AObj.solid_ren];exact hs)
theorem Sim.calledM {g g':Gh} {w w':World} {a:Act} {e:Env} {h:Heap} (s:Sim g w n a e h) {R:List Nat} {hs h':Heap} {B:Nat} (d:Nat) (hn:R.Nodup) (hsub:subH h (toBig R 0) (memB R) R 0=some hs)
 (hx:Ext (g.lend R) w g' w') (hr:HRel g' w' h') (hbn:∀b ow,g'.own b=some ow→b<w'.heap.size)
 (c1:(keysOf h').Nodup) (c2:newCk h B R.length (keysOf h')=true) (c3:allKeys (keysOf h') R.length=true) (hglob:globB hs h'=true):
 ∃G,Sim G w' n a e ((backH R B h').reverse++h)∧Ext g w G w'∧∀v r,VRel g' w' (domOf h') (some .ret) v r→VRel G w' (domOf ((backH R B h').reverse++h)) (some (.slot d)) v (r.ren (ofBig R B)):=by
 obtain⟨s1,s2⟩:=subH_spec R 0 hs hsub;have ck:=newCk_mem _ c2;have ak:=allKeys_mem _ c3
 have ofB1:∀{j l:Nat},R[j]?=some l→ofBig R B (bigId+j)=l:=fun {j l} hj=>by
  unfold ofBig;rw[show Nat.ble bigId (bigId+j)=true from Nat.ble_eq_true_of_le (by omega)];rw[show bigId+j-bigId=j by omega];exact getD_of hj
 have ofB2:∀{l:Nat},l<bigId→ofBig R B l=B+l:=fun {l} hl=>by
  unfold ofBig
  cases hq:Nat.ble bigId l with
  |false=>rfl
  |true=>rw[Nat.ble_eq]at hq;omega
 have Rdom:∀{j l:Nat},R[j]?=some l→domOf h l:=fun {j l} hj=>by
  obtain⟨ob0,q1,_⟩:=s2 j l hj;simp[domOf,q1]
 have big:∀l∈keysOf h',bigId≤l→∃l0,R[l-bigId]?=some l0∧l=bigId+(l-bigId):=fun l hl hb=>by
  rcases ck l hl with⟨q1,q2⟩|⟨q1,_⟩
  ·exact⟨R[l-bigId],List.getElem?_eq_getElem q2,by omega⟩
  ·omega
 have small:∀l∈keysOf h',l<bigId→hget h (B+l)=none∧B+l<bigId:=fun l hl hb=>by
  rcases ck l hl with⟨q1,q2⟩|⟨_,q2⟩
  ·omega
  ·exact freshId_spec q2
 have inj:∀x∈keysOf h',∀y∈keysOf h',ofBig R B x=ofBig R B y→x=y:=by
  intro x hx y hy he
  by_cases bx:bigId≤x
  ·obtain⟨lx,x1,x2⟩:=big x hx bx
   rw[x2,ofB1 x1]at he
   by_cases bY:bigId≤y
   ·obtain⟨ly,y1,y2⟩:=big y hy bY
    rw[y2,ofB1 y1]at he;subst he;have h1:=(List.getElem?_eq_some_iff.1 x1)
    have h2:=(List.getElem?_eq_some_iff.1 y1)
    have:=(List.getElem_inj (h₀:=h1.1) (h₁:=h2.1) hn).1 (h1.2.trans h2.2.symm);omega
   ·exfalso
    rw[ofB2 (by omega)]at he;have:=Rdom x1;rw[he]at this;simp[domOf,(small y hy (by omega)).1]at this
  ·rw[ofB2 (by omega)]at he
   by_cases bY:bigId≤y
   ·exfalso
    obtain⟨ly,y1,y2⟩:=big y hy bY;rw[y2,ofB1 y1]at he;have:=Rdom y1;rw[←he]at this;simp[domOf,(small x hx (by omega)).1]at this
   ·rw[ofB2 (by omega)]at he;omega
 have kn:(keysOf (backH R B h')).Nodup:=by rw[keysOf_back];exact nodup_map_inj _ c1 inj
 have hH:∀x,hget ((backH R B h').reverse++h) x=match hget (backH R B h') x with|some ob=>some ob|none=>hget h x:=fun x=>hget_rev_append _ _ x kn
 have hHnew:∀l ob,hget h' l=some ob→hget ((backH R B h').reverse++h) (ofBig R B l)=some (ob.ren (ofBig R B)):=by
  intro l ob hl;obtain⟨ob1,q1⟩:=hget_of_key (backH R B h') (ofBig R B l) (by rw[keysOf_back];exact List.mem_map.2 ⟨l,hget_key _ _ _ hl,rfl⟩);obtain⟨l2,ob2,q2,q3,q4⟩:=hget_back _ _ _ q1;obtain⟨q5,q6⟩:=q4 inj;have:=inj l (hget_key _ _ _ hl) l2 q2 q3;subst this;rw[hl]at q5;cases q5;rw[hH,q1,q6]
 have hHold:∀x,(∀l∈keysOf h',x≠ofBig R B l)→hget ((backH R B h').reverse++h) x=hget h x:=by
  intro x hx;rw[hH,hget_none_of];rw[keysOf_back];intro hm;obtain⟨l,h1,h2⟩:=List.mem_map.1 hm;exact hx l h1 h2.symm
 have hdomH:∀x,domOf h x→domOf ((backH R B h').reverse++h) x:=by
  intro x hx;unfold domOf at hx ⊢;rw[hH]
  cases hget (backH R B h') x with
  |some ob=>rfl
  |none=>exact hx
 -- the ghost
 let G:Gh:={ pre:=g'.pre,own:=fun b=>if b<w.heap.size∧(g.lend R).own b=none then g.own b else backOwn R B d h' (g'.own b),
             ρ:=fun l=>if l∈R then g.ρ l else if B≤l∧l-B∈keysOf h'∧l-B<bigId then g'.ρ (l-B) else g.ρ l,σ:=g'.σ,sown:=g.sown }
 have Gpre:G.pre=g'.pre:=rfl;have Gown:∀b,G.own b=if b<w.heap.size∧(g.lend R).own b=none then g.own b else backOwn R B d h' (g'.own b):=fun _=>rfl
 have Gρ:∀l,G.ρ l=if l∈R then g.ρ l else if B≤l∧l-B∈keysOf h'∧l-B<bigId then g'.ρ (l-B) else g.ρ l:=fun _=>rfl
 have Gσ:G.σ=g'.σ:=rfl;have Gsown:G.sown=g.sown:=rfl;generalize G=G at Gpre Gown Gρ Gσ Gsown;have hs1:∀s k a,g.σ s k=some a→G.σ s k=some a:=fun s k a q=>by rw[Gσ];exact hx.frz.1 s k a q
 have hs2:∀s k a,g'.σ s k=some a→G.σ s k=some a:=fun s k a q=>by rw[Gσ];exact q
 have Gρold:∀l,domOf h l→G.ρ l=g.ρ l:=by
  intro l hl;rw[Gρ];split
  ·rfl
  ·split
   ·rename_i q
    have:=(small (l-B) q.2.1 q.2.2).1;rw[show B+(l-B)=l by omega]at this;simp[domOf,this]at hl
   ·rfl
 have Gρnew:∀l,l∈keysOf h'→G.ρ (ofBig R B l)=g'.ρ l:=by
  intro l hl
  by_cases hb:bigId≤l
  ·obtain⟨l0,q1,q2⟩:=big l hl hb
   rw[show ofBig R B l=l0 by rw[q2];exact ofB1 q1,Gρold l0 (Rdom q1),hx.ρk l hb];show _=g.ρ (R.getD (l-bigId) 0);rw[getD_of q1]
  ·rw[ofB2 (by omega),Gρ]
   have hnew:=small l hl (by omega)
   have hnR:B+l∉R:=fun hm=>by
    obtain⟨j,hj⟩:=List.getElem?_of_mem hm;have:=Rdom hj;simp[domOf,hnew.1]at this
   rw[if_neg hnR,if_pos ⟨by omega,by rw[show B+l-B=l by omega];exact⟨hl,by omega⟩⟩,show B+l-B=l by omega]
 have kept:∀b,b<w.heap.size→(g.lend R).own b=none→w'.heap[b]?=w.heap[b]?∧G.pre b=g.pre b∧G.own b=g.own b:=by
  intro b hb ho;obtain⟨q1,q2,q3⟩:=hx.kept b hb ho;exact⟨q1,by rw[Gpre];exact q2,by rw[Gown,if_pos ⟨hb,ho⟩]⟩
 have lendSlot:∀b i,g.own b=some (.slot i)→(g.lend R).own b=none:=fun b i ho=>by
  show lendOwn R (g.own b)=none;rw[ho];rfl
 have himm:∀b k v,imm g w b k=some v→imm G w' b k=some v:=fun b k v hv=>by
  have:=hx.imm b k v hv;simp only[imm_eq]at this ⊢;rw[Gpre];exact this
 have hownG:∀b q,g'.own b=some q→G.own b=backOwn R B d h' (some q):=by
  intro b q hq;rw[Gown];split
  ·rename_i hc
   have:=(hx.kept b hc.1 hc.2).2.2;rw[hq]at this;cases this
  ·rw[hq]
 -- values of the caller
 have up:∀{ow v x},(∀q b,ow=some q→g.own b=some q→(g.lend R).own b=none)→VRel g w (domOf h) ow v x→VRel G w' (domOf ((backH R B h').reverse++h)) ow v x:=fun hq r=>
  r.keep himm (fun l hl=>⟨hdomH l hl,Gρold l hl⟩) (fun l cs E hl hb=>hx.siz _ cs E hb)
   (fun q b e1 ho=>by
     have hb:=s.bnd b q ho;obtain⟨k1,k2,k3⟩:=kept b hb (hq q b e1 ho);exact⟨k3.trans ho,k2,k1⟩) (hsg:=hs1)
 -- values of the callee
 have down:∀{ow ow2 v x},(∀q,ow=some q→ow2=backOwn R B d h' (some q)∧ow2≠none)→VRel g' w' (domOf h') ow v x→VRel G w' (domOf ((backH R B h').reverse++h)) ow2 v (x.ren (ofBig R B)):=fun {ow ow2 v x} hq r=>by
  refine VRel.ren (g:=g') (g2:=G) (ofBig R B) (fun _=>true) (fun b k v hv=>by simp only[imm_eq]at hv ⊢;rw[Gpre];exact hv) (fun l hl _=>?_) (fun q b e1 ho=>?_) r (within_all _ (fun _=>rfl) x) (hsg:=hs2)
  ·unfold domOf at hl
   obtain⟨ob,hob⟩:=Option.isSome_iff_exists.1 hl;exact⟨by unfold domOf;rw[hHnew l ob hob];rfl,Gρnew l (hget_key _ _ _ hob)⟩
  ·obtain⟨k1,k2⟩:=hq q e1
   cases hq2:ow2 with
   |none=>exact absurd hq2 k2
   |some q2=>exact⟨q2,rfl,by rw[hownG b q ho,←k1,hq2],by rw[Gpre]⟩
 refine⟨G,⟨s.defers,s.size,fun i=>up (fun q b e1 ho=>by cases e1;exact lendSlot b i ho) (s.env i),⟨fun x ob hxo=>?_,fun x ob hxo hsl=>?_,fun x ob hxo hsl=>?_⟩,fun b q hq=>?_⟩,?_,fun v r hv=>?_⟩
 · -- objects
  rw[hH]at hxo
  cases hb:hget (backH R B h') x with
  |some ob1=>
   rw[hb]at hxo;cases hxo;obtain⟨l,ob0,q1,q2,q3⟩:=hget_back _ _ _ hb;obtain⟨q4,q5⟩:=q3 inj;subst q2;subst q5;have hkl:=hget_key _ _ _ q4
   cases hr.obj l ob0 q4 with
   |cells cs vs E hb' hl hxx h1=>
    refine .cells _ vs E (by rw[Gρnew l hkl];exact hb') (by rw[rens_length];exact hl) (fun i v c q5 q6=>?_) h1;rw[rens_get]at q6
    cases hq:cs[i]? with
    |none=>simp[hq]at q6
    |some c0=>
     simp only[hq,Option.map_some,Option.some.injEq]at q6;subst q6;refine down (fun q e1=>?_) (hxx i v c0 q5 hq);cases e1;simp[backOwn,hkl]
   |arr xs vs E hb' hl hxx h1=>exact .arr xs vs E (by rw[Gρnew l hkl];exact hb') hl (fun i v c q5 q6=>(hxx i v c q5 q6).mono (fun b k v hv=>by simp only[imm_eq]at hv ⊢;rw[Gpre];exact hv) hs2) h1
   |gr st sz xs hg=>exact .gr st sz xs fun q=>(hg q).mono (fun b k v hv=>by simp only[imm_eq]at hv ⊢;rw[Gpre];exact hv) (fun _ _ hv=>by rw[Gρnew l hkl];exact hv) hs2
   |dead=>exact .dead
   |bld T E2 bs2 hbl=>exact ORel.bldM hbl (Gρnew l hkl) rfl (fun bb hb2=>⟨by rw[hownG bb _ hb2];simp[backOwn,hkl],rfl,by rw[Gpre]⟩)
   |store T3 o3 sp3 nx3 z3 M3 hst=>
    refine .store T3 o3 sp3 nx3 z3 M3 (hst.mono (fun b k v hv=>by simp only[imm_eq]at hv ⊢;rw[Gpre];exact hv) (fun bb hb2=>⟨by rw[hownG bb _ hb2];simp[backOwn,hkl],rfl,by rw[Gpre]⟩) ?_ (hs:=hs2) (he:=fun k=>by rw[Gσ]));have q9:=hst.sown;rw[hx.frz.2.1]at q9;replace q9:lendS R (g.sown sp3)=some l:=q9;rw[Gsown]
    cases hq8:g.sown sp3 with
    |none=>rw[hq8]at q9;cases q9
    |some l8=>
     rw[hq8]at q9;simp only[lendS]at q9;split at q9
     ·rename_i hm8
      obtain⟨j8,hj8⟩:=List.getElem?_of_mem hm8;rw[toBig_get R 0 j8 l8 hn hj8]at q9;cases q9;rw[Nat.zero_add,ofB1 hj8]
     ·cases q9
   |glob gb gvs hgl=>
    refine ORel.globM hgl (fun h1 hlt _=>?_);obtain⟨vs',hq⟩:=globB_get hglob q4;obtain⟨j,l0,ob0,e1,e2,e3,e4,e5⟩:=s1 _ _ hq
    cases ob0 with
    |glob b0 vs0=>
     simp only[AObj.ren,AObj.glob.injEq]at e5;obtain⟨rfl,_⟩:=e5
     cases s.heap.obj l0 _ e3 with
     |glob _ _ hg0=>
      obtain⟨g1,E0,fr0,g2⟩:=hg0;have hk:=kept gb (Array.getElem?_eq_some_iff.1 g2).1 (by show lendOwn R (g.own gb)=none;rw[g1];rfl);exact⟨rfl,hk.2.2.trans g1⟩
    |_=>simp[AObj.ren]at e5
   |map kd xs es clock hb' hxx hc=>exact .map kd xs es clock (by rw[Gρnew l hkl];exact hb') ⟨hxx.1,fun i p1 p2 p3 p4=>⟨(hxx.2 i p1 p2 p3 p4).1.mono (fun b k v hv=>by simp only[imm_eq]at hv ⊢;rw[Gpre];exact hv) hs2,(hxx.2 i p1 p2 p3 p4).2.mono (fun b k v hv=>by simp only[imm_eq]at hv ⊢;rw[Gpre];exact hv) hs2⟩⟩ hc
  |none=>
   rw[hb]at hxo;have hdx:domOf h x:=by simp[domOf,hxo]
   have hnR:x∉R:=fun hm=>by
    obtain⟨j,hj⟩:=List.getElem?_of_mem hm;have hk:=ak j (List.getElem?_eq_some_iff.1 hj).1;obtain⟨ob2,q1⟩:=hget_of_key h' _ hk;have:=hHnew _ _ q1;rw[ofB1 hj,hH,hb]at this;have h2:x∈keysOf (backH R B h'):=by rw[keysOf_back];exact List.mem_map.2 ⟨_,hk,ofB1 hj⟩
    obtain⟨ob3,q3⟩:=hget_of_key _ _ h2;rw[hb]at q3;cases q3
   have hlo:ob.solid=true→(g.lend R).own (g.ρ x)=none:=fun hsl=>by
    show lendOwn R (g.own (g.ρ x))=none;rw[s.heap.own x ob hxo hsl];simp[lendOwn,hnR]
   have eo:ob.solid=true→w'.heap[G.ρ x]?=w.heap[g.ρ x]?:=fun hsl=>by rw[Gρold x hdx];exact(kept _ (s.bnd _ _ (s.heap.own x ob hxo hsl)) (hlo hsl)).1
   cases s.heap.obj x ob hxo with
   |cells cs vs E hb' hl hxx h1=>
    refine .cells cs vs E ((eo rfl).trans hb') hl (fun i v c q5 q6=>up (fun q b e1 ho=>?_) (hxx i v c q5 q6)) h1;cases e1;show lendOwn R (g.own b)=none;rw[ho];simp[lendOwn,hnR]
   |arr xs vs E hb' hl hxx h1=>exact .arr xs vs E ((eo rfl).trans hb') hl (fun i v c q5 q6=>(hxx i v c q5 q6).mono himm hs1) h1
   |map kd xs es clock hb' hxx hc=>exact .map kd xs es clock ((eo rfl).trans hb') ⟨hxx.1,fun i p1 p2 p3 p4=>⟨(hxx.2 i p1 p2 p3 p4).1.mono himm hs1,(hxx.2 i p1 p2 p3 p4).2.mono himm hs1⟩⟩ hc
   |gr st sz xs hg=>exact .gr st sz xs fun q=>(hg q).mono himm (fun _ _ hv=>(eo (gr_solid q)).trans hv) hs1
   |dead=>exact .dead
   |bld T E2 bs2 hbl=>exact ORel.bldM hbl (Gρold x hdx) (by have:=eo rfl;rwa [Gρold x hdx]at this) (fun bb hb2=>by have hk:=kept bb (s.bnd _ _ hb2) (by show lendOwn R (g.own bb)=none;rw[hb2];simp[lendOwn,hnR]);exact⟨hk.2.2.trans hb2,hk.1,hk.2.1⟩)
   |store T3 o3 sp3 nx3 z3 M3 hst=>exact .store T3 o3 sp3 nx3 z3 M3 (hst.mono himm (fun bb hb2=>by have hk:=kept bb (s.bnd _ _ hb2) (by show lendOwn R (g.own bb)=none;rw[hb2];simp[lendOwn,hnR]);exact⟨hk.2.2.trans hb2,hk.1,hk.2.1⟩) (by rw[Gsown];exact hst.sown) (hs:=hs1) (he:=fun k=>by rw[Gσ];exact hx.frz.2.2 sp3 (by show lendS R (g.sown sp3)=none;rw[hst.sown];simp[lendS,hnR]) k))
   |glob gb gvs hgl=>exact ORel.globM hgl (fun h1 hlt _=>by have hk:=kept gb hlt (by show lendOwn R (g.own gb)=none;rw[h1];rfl);exact⟨hk.1,hk.2.2.trans h1⟩)
 ·rw[hH]at hxo
  cases hb:hget (backH R B h') x with
  |some ob1=>
   obtain⟨l,ob0,q1,q2,q3⟩:=hget_back _ _ _ hb;obtain⟨q4,q5⟩:=q3 inj;subst q2;have hkl:=hget_key _ _ _ q4;rw[hb]at hxo;cases hxo;rw[Gρnew l hkl,hownG _ _ (hr.own l ob0 q4 (by rw[q5,AObj.solid_ren]at hsl;exact hsl))];simp[backOwn,hkl]
  |none=>
   rw[hb]at hxo;have hdx:domOf h x:=by simp[domOf,hxo]
   have hnR:x∉R:=fun hm=>by
    obtain⟨j,hj⟩:=List.getElem?_of_mem hm;have hk:=ak j (List.getElem?_eq_some_iff.1 hj).1;have h2:x∈keysOf (backH R B h'):=by rw[keysOf_back];exact List.mem_map.2 ⟨_,hk,ofB1 hj⟩
    obtain⟨ob3,q3⟩:=hget_of_key _ _ h2;rw[hb]at q3;cases q3
   have ho:=s.heap.own x ob hxo hsl
   have hlo:(g.lend R).own (g.ρ x)=none:=by
    show lendOwn R (g.own (g.ρ x))=none;rw[ho];simp[lendOwn,hnR]
   rw[Gρold x hdx,(kept _ (s.bnd _ _ ho) hlo).2.2];exact ho
 ·rw[hH]at hxo
  cases hb:hget (backH R B h') x with
  |some ob1=>
   obtain⟨l,ob0,q1,q2,q3⟩:=hget_back _ _ _ hb;obtain⟨q4,q5⟩:=q3 inj;subst q2;have hkl:=hget_key _ _ _ q4;rw[hb]at hxo;cases hxo;rw[Gρnew l hkl,Gpre];exact hr.pre l ob0 q4 (by rw[q5,AObj.solid_ren]at hsl;exact hsl)
  |none=>
   rw[hb]at hxo;have hdx:domOf h x:=by simp[domOf,hxo]
   have hnR:x∉R:=fun hm=>by
    obtain⟨j,hj⟩:=List.getElem?_of_mem hm;have hk:=ak j (List.getElem?_eq_some_iff.1 hj).1;have h2:x∈keysOf (backH R B h'):=by rw[keysOf_back];exact List.mem_map.2 ⟨_,hk,ofB1 hj⟩
    obtain⟨ob3,q3⟩:=hget_of_key _ _ h2;rw[hb]at q3;cases q3
   have ho:=s.heap.own x ob hxo hsl
   have hlo:(g.lend R).own (g.ρ x)=none:=by
    show lendOwn R (g.own (g.ρ x))=none;rw[ho];simp[lendOwn,hnR]
   rw[Gρold x hdx,(kept _ (s.bnd _ _ ho) hlo).2.1];exact s.heap.pre x ob hxo hsl
 ·rw[Gown]at hq
  split at hq
  ·rename_i hc;exact Nat.lt_of_lt_of_le hc.1 hx.size
  ·cases hg:g'.own b with
   |none=>rw[hg]at hq;simp[backOwn]at hq
   |some q'=>exact hbn b q' hg
 ·refine⟨hx.size,hx.os,hx.out,himm,fun b hb ho=>?_,⟨hs1,Gsown,fun s q k=>by rw[Gσ];exact hx.frz.2.2 s (by show lendS R (g.sown s)=none;rw[q];rfl) k⟩,hx.frz',fun l hl=>?_,hx.siz⟩
  ·have hlo:(g.lend R).own b=none:=by
    show lendOwn R (g.own b)=none;rw[ho];rfl
   obtain⟨k1,k2,k3⟩:=kept b hb hlo;exact⟨k1,k2,k3.trans ho⟩
  ·rw[Gρ]
   split
   ·rfl
   ·split
    ·rename_i q
     have:=(small (l-B) q.2.1 q.2.2).2;omega
    ·rfl
 ·exact down (fun q e1=>by cases e1;simp[backOwn]) hv
end
end Go.AM
end
