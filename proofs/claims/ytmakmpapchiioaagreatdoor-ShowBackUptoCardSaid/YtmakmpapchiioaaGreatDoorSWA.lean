/-
  DERIVED. Contracts of functions that the law reaches, and the law, for every input. No conditions.
-/
import Derived.Test.YtmakmpapchiioaaGreatDoorPAK
import Derived.Test.YtmakmpapchiioaaGreatDoorAMGlob
import Derived.Shelf.Strings.Builder2
import Derived.Test.YtmakmpapchiioaaGreatDoorTK4
open Go Go.AM Go.Proofs Go.RowKit
set_option maxRecDepth 100000
namespace SW
theorem size89:(Tryz.prog.info? 89).map (fun i=>i.size)=some 2:=by kernel_rfl
theorem lies89:liesAt Tryz.prog Tryz.prog.depth 89 (2/Tryz.prog.cellsOf 89) 0 89 1=true:=by kernel_rfl
set_option maxHeartbeats 1000000 in
theorem cc_used (b:Nat) (w:World) (h0:w.cell? ⟨b,0,none⟩=some (.pointer (some ⟨b,0,none⟩))):
 Calls Tryz.prog 84 #[.pointer (some ⟨b,0,none⟩)] w fun e w'=>e=.returned (.tuple #[])∧w'=w:=by
 obtain⟨j,hj,_⟩:=Option.map_eq_some_iff.1 size89
 go_enter Tryz.func84,Tryz.ntmps84
 go_wp2
 rw[Lib.run_neq_ptr_same w _ Tryz.underlying86 hj]
 go_wp2
 go_end0
 exact⟨rfl,rfl⟩
set_option maxHeartbeats 1000000 in
theorem cc_fresh (b:Nat) (w:World) (h0:w.cell? ⟨b,0,none⟩=some (.pointer none)) (hsh:w.shape? b=some (89,2)) (hfz:w.frozen? ⟨b,0,none⟩=false):
 Calls Tryz.prog 84 #[.pointer (some ⟨b,0,none⟩)] w fun e w'=>e=.returned (.tuple #[])∧w'=w.setCell ⟨b,0,none⟩ (.pointer (some ⟨b,0,none⟩)):=by
 obtain⟨j,hj,hjs⟩:=Option.map_eq_some_iff.1 size89
 go_enter Tryz.func84,Tryz.ntmps84
 go_wp2
 rw[Lib.run_to_unsafe w ⟨b,0,none⟩ Tryz.underlying86 Tryz.underlying191 hj (by rw[hjs];decide) hsh (Nat.zero_lt_succ 1)]
 simp only[Result.andThen]
 rw[Oper.upon_value]
 go_wp2
 rw[run_callFunc_extern Tryz.func131 (by kernel_rfl) (by kernel_rfl) (by kernel_rfl) (e:=Extern.AbiNoEscape.same) (by kernel_rfl)]
 rw[Lib.run_noEscape]
 simp only[Result.andThen]
 rw[Oper.upon_value]
 go_wp2
 rw[Lib.run_from_unsafe w ⟨b,0,none⟩ Tryz.underlying191 Tryz.underlying86 hj hsh lies89]
 simp only[Result.andThen]
 rw[Oper.upon_value]
 go_wp2
 go_end0
 exact⟨rfl,rfl⟩
theorem cc_run (b:Nat) (w:World) (p v:Value) (hb:w.heap[b]?=some (.cells #[p,v] 89 (0,0))) (hp:p=.pointer none∨p=.pointer (some ⟨b,0,none⟩)):
 Calls Tryz.prog 84 #[.pointer (some ⟨b,0,none⟩)] w fun e w'=>e=.returned (.tuple #[])∧w'.heap[b]?=some (.cells #[.pointer (some ⟨b,0,none⟩),v] 89 (0,0))∧w'.heap.size=w.heap.size∧(∀k,k≠b→w'.heap[k]?=w.heap[k]?)∧w'.os=w.os∧w'.output=w.output:=by
 have hlt:b<w.heap.size:=(Array.getElem?_eq_some_iff.1 hb).1
 rcases hp with rfl|rfl
 ·refine(cc_fresh b w (by simp[World.cell?,hb]) (by simp[World.shape?,hb]) (by rw[Lib.frozen_of_heap hb 0])).mono ?_
  rintro e w' ⟨rfl,rfl⟩
  refine⟨rfl,?_,?_,fun k hk=>?_,rfl,rfl⟩
  ·simp[World.setCell,Array.getElem?_modify,hb]
  ·simp[World.setCell]
  ·simp[World.setCell,Array.getElem?_modify,Ne.symm hk]
 ·refine(cc_used b w (by simp[World.cell?,hb])).mono ?_
  rintro e w' ⟨rfl,rfl⟩
  exact⟨rfl,hb,rfl,fun _ _=>rfl,rfl,rfl⟩
theorem append_where {P:Program} (w:World) {base:Nat} {t u ty e:TypeId} {i:TypeInfo} (ht:P.underlying t=some (.slice e)) (hu:P.underlying u=some .string) (hi:P.info? e=some i) (hz:i.zero=some (.int .u8 0))
 (hsize:i.size=1) (hby:i.bytes=1) {v:Value} {n:Nat} {xs:List Value} (hown:w.ownsRow base e 1 v n xs) (s:ByteArray) (hbytes:n+s.size≤140737488355328) {v':Value} {w':World}
 (hr:(Builtin.append_ #[t,u] ty #[v,.string s]).run P w=.ok v' w'):(v'.ownBlock=v.ownBlock∨v'.ownBlock=some w.heap.size)∧(∀(k:Nat) (cs:Array Value) (E:TypeId),v.ownBlock=some k→w.heap[k]?=some (.cells cs E (0,0))→∃cs':Array Value,w'.heap[k]?=some (.cells cs' E (0,0))∧cs'.size=cs.size):=by
 have hxl:xs.length=n:=by simpa using hown.1
 rcases hown.2 with⟨rfl,rfl⟩|⟨g,cap,cur,rfl,hbg,hg,hnc,hcm,hcs,htake⟩
 ·by_cases hm:s.size=0
  ·have hf:=Lib.run_firstCells_string (P:=P) w 1 s
   rw[hm]at hf
   have:(Builtin.append_ #[t,u] ty #[.slice none 0 0,.string s]).run P w=.ok (.slice none 0 0) w:=by
    simp[Builtin.append_,run_underlying ht,run_underlying hu,Go.sizeOf,typeInfo,hi,hsize,Builtin.lenOf,hm,hf]
   rw[this]at hr
   cases hr
   exact⟨.inl rfl,fun k cs E hk=>by cases hk⟩
  ·rw[run_append_nil_string (P:=P) w t u ty e i (.int .u8 0) ht hu hi hz s (by omega) (by omega) (by rw[hby];omega)]at hr
   cases hr
   exact⟨.inr rfl,fun k cs E hk=>by cases hk⟩
 ·by_cases hroom:n+s.size≤cap
  ·have hcs':cur.size=cap:=by simpa using hcs
   rw[Lib.run_append_room_string (P:=P) w t u ty e i ht hu hi hsize g n cap cur hg s hroom (by omega)]at hr
   cases hr
   refine⟨.inl rfl,fun k cs E hk hb=>?_⟩
   obtain rfl:g=k:=by simpa[Value.ownBlock] using hk
   rw[hg]at hb
   cases hb
   refine⟨_,setRow_heap w g cur _ e _ hg,?_⟩
   simp only[List.size_toArray,List.length_append,List.length_take,List.length_drop,Array.length_toList,Lib.strCells_length]
   omega
  ·have holds:∀j u,xs[j]?=some u→w.cell? ((⟨g,0,none⟩:Addr).add j)=some u:=hown.cells (g:=g) rfl
   rw[Lib.run_append_grow_string (P:=P) w t u ty e i (.int .u8 0) ht hu hi hz ⟨g,0,none⟩ n cap xs (by rw[hsize];simpa using hxl) holds s (by omega) (by omega) (by rw[hby];exact growslice_fits (by omega) (by omega))]at hr
   cases hr
   refine⟨.inr rfl,fun k cs E _ hb=>⟨cs,?_,rfl⟩⟩
   rw[heap_alloc_old w.drew _ (Array.getElem?_eq_some_iff.1 hb).1];exact hb
theorem wpList_append_at {P:Program} (w:World) {ops:Array Oper} {rest:List Oper} {o:Oper} {a:Act} {Q:Exit→Act→World→Prop} (hgd:o.guard=none) (sl x:Operand) (t u:TypeId)
 (ho:o.op=.call { callee:=.builtin .append,args:=#[sl,x],argTypes:=#[t,u] })
 (base:Nat) (e:TypeId) (i:TypeInfo) (ht:P.underlying t=some (.slice e)) (hu:P.underlying u=some .string) (hi:P.info? e=some i) (hz:i.zero=some (.int .u8 0))
 (hsize:i.size=1) (hby:i.bytes=1)
 (v:Value) (n:Nat) (xs:List Value) (hs:a.eval sl=v) (hown:w.ownsRow base e 1 v n xs) (s:ByteArray) (hx:a.eval x=.string s)
 (h63:n+s.size≤maxLen) (hbytes:n+s.size≤140737488355328) (hbase:base≤w.heap.size)
 (h:∀v' w',w'.ownsRow base e 1 v' (n+s.size) (xs++Lib.strCells s)→w.grownBy w' v.ownBlock→(v'.ownBlock=v.ownBlock∨v'.ownBlock=some w.heap.size)→(∀(k:Nat) (cs:Array Value) (E:TypeId),v.ownBlock=some k→w.heap[k]?=some (.cells cs E (0,0))→∃cs':Array Value,w'.heap[k]?=some (.cells cs' E (0,0))∧cs'.size=cs.size)→wpList P ops Q rest (a.put o.dst v') w'):wpList P ops Q (o::rest) a w:=by
 refine wpList_plain hgd fun K hK=>?_
 obtain⟨v',w',hr,h2,h3,_⟩:=Lib.run_append_own_string (P:=P) w base t u o.type e i ht hu hi hz hsize hby v n xs hown s h63 hbytes hbase
 have h5:=append_where w ht hu hi hz hsize hby hown s hbytes hr
 unfold Oper.wp execOp
 simp only[ho,resolve,invoke,builtin,Sem.run_bind,Sem.run_pure,Result.andThen_ok,List.map_toArray,List.map_cons,List.map_nil,hs,hx,hr]
 exact hK _ _ (h v' w' h2 h3 h5.1 h5.2)
set_option maxHeartbeats 2000000 in
theorem ws_run (b:Nat) (p v:Value) (n:Nat) (xs:List Value) (s:ByteArray) (w:World) (hbk:w.heap[b]?=some (.cells #[p,v] 89 (0,0))) (hp:p=.pointer none∨p=.pointer (some ⟨b,0,none⟩))
 (hown:w.ownsRow 0 5 1 v n xs) (hne:v.ownBlock≠some b) (hlen:n+s.size≤140737488355328):
 Calls Tryz.prog 26 #[.pointer (some ⟨b,0,none⟩),.string s] w fun e w'=>e=.returned (.tuple #[.int .i64 s.size,.nilIface])∧
  ∃v',w'.heap[b]?=some (.cells #[.pointer (some ⟨b,0,none⟩),v'] 89 (0,0))∧w'.ownsRow 0 5 1 v' (n+s.size) (xs++Lib.strCells s)∧w.heap.size≤w'.heap.size∧(∀k,k<w.heap.size→k≠b→v.ownBlock≠some k→w'.heap[k]?=w.heap[k]?)∧w'.os=w.os∧w'.output=w.output∧(v'.ownBlock=v.ownBlock∨v'.ownBlock=some w.heap.size)∧(∀(k:Nat) (cs:Array Value) (E:TypeId),v.ownBlock=some k→w.heap[k]?=some (.cells cs E (0,0))→∃cs':Array Value,w'.heap[k]?=some (.cells cs' E (0,0))∧cs'.size=cs.size):=by
 obtain⟨i0,hi,hz0,hz1,hz2⟩:=info_parts (show(Tryz.prog.info? 5).map (fun i=>(i.zero,i.size,i.bytes))=some (some (.int .u8 0),1,1) by kernel_rfl)
 have e240:∀args w,(callFunc 84 args).run Tryz.prog w=.ok (.enter 84 args) w:=enters_of Tryz.func84 (by kernel_rfl) rfl
 go_enter Tryz.func26,Tryz.ntmps26
 go_wp2_with (go_at_fn (84);refine(cc_run b _ p v hbk hp).mono ?_)
 rintro e w1 ⟨rfl,hb1,hsz1,hk1,hos1,hout1⟩
 have c0:w1.cell? ⟨b,0,none⟩=some (.pointer (some ⟨b,0,none⟩)):=by rw[Lib.cell_of_heap hb1];rfl
 have c1:w1.cell? ⟨b,1,none⟩=some v:=by rw[Lib.cell_of_heap hb1];rfl
 have hown1:w1.ownsRow 0 5 1 v n xs:=by
  refine⟨hown.1,?_⟩
  rcases hown.2 with h|⟨g,cap,cur,q1,q2,q3,q4⟩
  ·exact .inl h
  ·refine .inr ⟨g,cap,cur,q1,q2,?_,q4⟩
   rw[hk1 g (by intro e;subst e;exact hne (by rw[q1];rfl))];exact q3
 go_wp2_with (at_builtin;refine wpList_append_at _ rfl _ _ 87 9 rfl 0 5 i0 Tryz.underlying87 Tryz.underlying9 hi hz0 hz1 hz2 _ _ _ rfl hown1 s rfl ?c3 ?c4 ?c5 ?_)
 case c3=>unfold maxLen;omega
 case c4=>omega
 case c5=>exact Nat.zero_le _
 intro v' w2 hown' hgrow hwh hold
 have hlt:b<w1.heap.size:=(Array.getElem?_eq_some_iff.1 hb1).1
 have hb2:w2.heap[b]?=some (.cells #[.pointer (some ⟨b,0,none⟩),v] 89 (0,0)):=by
  rw[hgrow.block b hlt (fun e=>hne e.symm)]
  exact hb1
 have d0:w2.cell? ⟨b,0,none⟩=some (.pointer (some ⟨b,0,none⟩)):=by rw[Lib.cell_of_heap hb2];rfl
 have d1:w2.cell? ⟨b,1,none⟩=some v:=by rw[Lib.cell_of_heap hb2];rfl
 have f1:w2.frozen? ⟨b,1,none⟩=false:=Lib.frozen_of_heap hb2 1
 obtain⟨ao,n',cap,rfl⟩:∃ao n' cap,v'=.slice ao n' cap:=by
  rcases hown'.2 with⟨hv,_⟩|⟨g,cap,cur,hv,_⟩
  ·exact⟨_,_,_,hv⟩
  ·exact⟨_,_,_,hv⟩
 go_wp2
 go_ret2
 refine⟨rfl,.slice ao n' cap,?_,?_,?_,fun k hk hkb hkv=>?_,?_,?_,hwh,fun k cs E hk hb=>?_⟩
 ·simp[World.setCell,Array.getElem?_modify,hb2]
 ·refine⟨hown'.1,?_⟩
  rcases hown'.2 with h|⟨g,cap',cur,q1,q2,q3,q4⟩
  ·exact .inl h
  ·refine .inr ⟨g,cap',cur,q1,q2,?_,q4⟩
   have:b≠g:=by
    intro e;subst e
    rw[hb2]at q3
    simp only[Option.some.injEq,Obj.cells.injEq]at q3
    exact absurd q3.2.1 (by decide)
   simp[World.setCell,Array.getElem?_modify,this,q3]
 ·show w.heap.size≤(World.setCell w2 _ _).heap.size
  have:=hgrow.size
  simp[World.setCell];omega
 ·show(World.setCell w2 _ _).heap[k]?=_
  simp only[World.setCell]
  rw[Array.getElem?_modify,if_neg (Ne.symm hkb),hgrow.block k (by omega) (fun e=>hkv e.symm),hk1 k hkb]
 ·show w2.os=_;rw[hgrow.os,hos1]
 ·show w2.output=_;rw[hgrow.output,hout1]
 ·have hkb:k≠b:=by intro e;subst e;exact hne hk
  obtain⟨cs',g1,g2⟩:=hold k cs E hk (by rw[hk1 k hkb];exact hb)
  refine⟨cs',?_,g2⟩
  show(World.setCell w2 _ _).heap[k]?=_
  simp only[World.setCell]
  rw[Array.getElem?_modify,if_neg (Ne.symm hkb),g1]
end SW
open Go Go.AM Go.Proofs
set_option maxRecDepth 100000
namespace SW
abbrev tB:Nat:=89
abbrev tU:Nat:=5
def bld (bs:Bs):Heap:=[(1000000000,.bld 89 5 bs)]
theorem frozen_cells {w:World} {a:Addr} {cs:Array Value} {E:TypeId} (h:w.heap[a.block]?=some (.cells cs E (0,0))):w.frozen? a=false:=by
 unfold World.frozen?
 rw[h]
 simp
theorem frozen_same {w w':World} {a:Addr} (h:w'.heap[a.block]?=w.heap[a.block]?):w'.frozen? a=w.frozen? a:=by
 unfold World.frozen?
 rw[h]
theorem cell_same {w w':World} {a:Addr} (h:w'.heap[a.block]?=w.heap[a.block]?):w'.cell? a=w.cell? a:=by
 unfold World.cell?
 rw[h]
theorem cell_lt {w:World} {b o:Nat} {v:Value} (h:w.cell? ⟨b,o,none⟩=some v):b<w.heap.size:=by
 unfold World.cell? at h
 split at h
 ·rename_i hb
  exact(Array.getElem?_eq_some_iff.1 hb).1
 ·cases h
theorem brow_own {g:Gh} {w:World} {l:Nat} {bs:Bs} {p v:Value} (hb:w.heap[g.ρ l]?=some (.cells #[p,v] tB (0,0)))
 (h:(v=.slice none 0 0∧bs=[])∨∃(bb cap:Nat) (cur:Array Value),v=.slice (some ⟨bb,0,none⟩) bs.length cap∧g.own bb=some (.cell l 1)∧g.pre bb=0∧bb≠g.ρ l∧w.heap[bb]?=some (.cells cur tU (0,0))∧bs.length≤cap∧cap≤9223372036854775807∧cur.size=cap∧cur.toList.take bs.length=bs.map fun c=>Value.int .u8 c.toNat):
 w.ownsRow 0 tU 1 v bs.length (bs.map fun c=>Value.int .u8 c.toNat)∧v.ownBlock≠some (g.ρ l)∧∀k,v.ownBlock=some k→g.own k=some (.cell l 1)∧g.pre k=0∧∃cs,w.heap[k]?=some (.cells cs tU (0,0)):=by
 rcases h with⟨rfl,rfl⟩|⟨bb,cap,cur,rfl,h1,h2,h3,h4,h5,h6,h7,h8⟩
 ·refine⟨⟨by simp,.inl ⟨rfl,rfl⟩⟩,(by intro e;cases e),fun k hk=>by cases hk⟩
 ·refine⟨⟨by simp,.inr ⟨bb,cap,cur,rfl,Nat.zero_le _,h4,h5,h6,by omega,by rw[Nat.mul_one];exact h8⟩⟩,?_,fun k hk=>?_⟩
  ·intro e
   simp only[Value.ownBlock,Option.some.injEq]at e
   exact h3 e
  ·obtain rfl:bb=k:=by simpa[Value.ownBlock] using hk
   exact⟨h1,h2,_,h4⟩
theorem bld_rel {g:Gh} {w:World} {bs:Bs} (hρ:g.own (g.ρ 1000000000)=some (.obj 1000000000)) (hp:g.pre (g.ρ 1000000000)=0) (h:BRow g w 1000000000 tB tU bs):HRel g w (bld bs):=by
 refine⟨fun l o ho=>?_,fun l o ho hs=>?_,fun l o ho hs=>?_⟩
 all_goals
  unfold bld at ho
  by_cases hl:1000000000=l
  ·subst hl
   rw[hget_self]at ho
   cases ho
   first|exact .bld _ _ _ h|exact hρ|exact hp
  ·rw[hget_ne hl]at ho;cases ho
theorem ws_spec (bs s:Bs) (hl:bs.length+s.length≤140737488355328):AMem Tryz.prog 26 [.ptr 1000000000 0,.p (.s (B s))] (bld bs) (.tup [.p (.i .i64 s.length),.c .nilIface]) (bld (bs++s)):=by
 refine⟨⟨TK.body_of Tryz.func26 rfl (by rfl),rfl⟩,fun g w us hh hbn hlen hrel=>?_⟩
 match us,hlen with
 | [u1,u2],_=>
 have r1:=hrel 0 u1 _ rfl rfl
 have r2:=(hrel 1 u2 _ rfl rfl).pv
 cases r2
 cases r1
 have hob:=hh.obj 1000000000 _ (hget_self ..)
 cases hob with
 |bld _ _ _ hbl=>
 obtain⟨p,v,hb,hp,hv⟩:=hbl
 have hoK:g.own (g.ρ 1000000000)=some (.obj 1000000000):=hh.own 1000000000 _ (hget_self ..) rfl
 have hpK:g.pre (g.ρ 1000000000)=0:=hh.pre 1000000000 _ (hget_self ..) rfl
 obtain⟨ho1,ho2,ho3⟩:=brow_own hb hv
 have hsz:=B_size s
 refine(ws_run (g.ρ 1000000000) p v bs.length _ (B s) w hb hp ho1 ho2 (by omega)).mono ?_
 rintro e w' ⟨rfl,v',q1,q2,q3,q4,q5,q6,q7,q8⟩
 rw[hsz]at q2
 let G:Gh:={ pre:=fun k=>if v'.ownBlock=some k then 0 else g.pre k,own:=fun k=>if v'.ownBlock=some k then some (.cell 1000000000 1) else g.own k,ρ:=g.ρ }
 have hnew:∀k,v'.ownBlock=some k→k<w.heap.size→g.own k=some (.cell 1000000000 1)∧g.pre k=0:=by
  intro k hk hlt
  rcases q7 with q|q
  ·exact⟨(ho3 k (q.symm.trans hk)).1,(ho3 k (q.symm.trans hk)).2.1⟩
  ·rw[hk]at q
   cases q
   omega
 have hKne:v'.ownBlock≠some (g.ρ 1000000000):=by
  intro e
  have:=(hnew _ e (Array.getElem?_eq_some_iff.1 hb).1).1
  rw[hoK]at this;cases this
 have hkeep:∀k,k<w.heap.size→g.own k≠some (.obj 1000000000)→g.own k≠some (.cell 1000000000 1)→w'.heap[k]?=w.heap[k]?:=fun k hk h1 h2=>q4 k hk (by intro e;subst e;exact h1 hoK) (by intro e;exact h2 (ho3 k e).1)
 refine⟨_,G,rfl,?_,bld_rel ?_ ?_ ⟨.pointer (some ⟨g.ρ 1000000000,0,none⟩),v',q1,.inr rfl,?_⟩,fun b ow hown=>?_,⟨q3,q5,q6,fun b o u hu=>?_,fun b hlt hno=>?_,trivial,fun a ha=>?_,fun _ _=>rfl,fun b cs E hbk=>?_⟩⟩
 ·refine .tup _ [.int .i64 (B s).size,.nilIface] _ rfl ?_
  intro j x c hj hc
  match j with
  |0=>cases hj;cases hc;rw[hsz];exact .p _ _ _ (.i _ _)
  |1=>cases hj;cases hc;exact .c _ _ rfl
  |j+2=>simp at hj
 ·show(if v'.ownBlock=some (g.ρ 1000000000) then _ else g.own (g.ρ 1000000000))=_
  rw[if_neg hKne];exact hoK
 ·show(if v'.ownBlock=some (g.ρ 1000000000) then _ else g.pre (g.ρ 1000000000))=_
  rw[if_neg hKne];exact hpK
 ·have hcells:(bs.map fun c=>Value.int .u8 c.toNat)++Lib.strCells (B s)=(bs++s).map fun c=>Value.int .u8 c.toNat:=by
   rw[List.map_append,Lib.strCells,B_data]
  rw[hcells]at q2
  rcases q2.2 with⟨h1,h2⟩|⟨bb,cap,cur,h1,h2,h3,h4,h5,h6,h7⟩
  ·refine .inl ⟨h1,List.eq_nil_of_length_eq_zero (by rw[List.length_append];exact h2)⟩
  ·have hbb:v'.ownBlock=some bb:=by rw[h1];rfl
   refine .inr ⟨bb,cap,cur,by rw[h1,List.length_append],?_,?_,?_,h3,by rw[List.length_append];exact h4,h5,by omega,by rw[←h7,List.length_append,Nat.mul_one]⟩
   ·show(if v'.ownBlock=some bb then _ else _)=_
    rw[if_pos hbb]
   ·show(if v'.ownBlock=some bb then _ else _)=_
    rw[if_pos hbb]
   ·intro e;subst e;exact hKne hbb
 ·have hown:(if v'.ownBlock=some b then some (.cell 1000000000 1) else g.own b)=some ow:=hown
  split at hown
  ·rename_i hvb
   rcases q2.2 with⟨h1,_⟩|⟨bb,cap,cur,h1,_,h3,_⟩
   ·rw[h1]at hvb;cases hvb
   ·rw[h1]at hvb
    obtain rfl:bb=b:=by simpa[Value.ownBlock] using hvb
    exact(Array.getElem?_eq_some_iff.1 h3).1
  ·have:=hbn b ow hown;omega
 ·unfold Go.AM.imm at hu ⊢
  split at hu
  ·rename_i hpre
   have hlt:b<w.heap.size:=cell_lt hu
   have hnv:v'.ownBlock≠some b:=fun e=>by have:=(hnew b e hlt).2;omega
   rw[if_pos (show o<G.pre b by show o<(if v'.ownBlock=some b then 0 else g.pre b);rw[if_neg hnv];exact hpre)]
   rw[cell_same (a:=⟨b,o,none⟩) (q4 b hlt (by intro e;subst e;omega) (by intro e;have:=(ho3 b e).2.1;omega))]
   exact hu
  ·cases hu
 ·have hnv:v'.ownBlock≠some b:=fun e=>by have:=(hnew b e hlt).1;rw[hno]at this;cases this
  refine⟨hkeep b hlt (by rw[hno];intro e;cases e) (by rw[hno];intro e;cases e),?_,?_⟩
  ·show(if v'.ownBlock=some b then _ else g.pre b)=_
   rw[if_neg hnv]
  ·show(if v'.ownBlock=some b then _ else g.own b)=_
   rw[if_neg hnv];exact hno
 ·by_cases e1:a.block=g.ρ 1000000000
  ·rw[frozen_cells (by rw[e1];exact q1),frozen_cells (by rw[e1];exact hb)]
  ·by_cases e2:v.ownBlock=some a.block
   ·obtain⟨_,_,cs,hcs⟩:=ho3 _ e2
    obtain⟨cs',h1,_⟩:=q8 _ cs _ e2 hcs
    rw[frozen_cells h1,frozen_cells hcs]
   ·exact frozen_same (q4 _ ha e1 e2)
 ·by_cases e1:b=g.ρ 1000000000
  ·subst e1
   rw[hb]at hbk
   cases hbk
   exact⟨_,_,q1,rfl⟩
  ·by_cases e2:v.ownBlock=some b
   ·obtain⟨cs',h1,h2⟩:=q8 b cs E e2 hbk
    exact⟨cs',E,h1,h2⟩
   ·exact⟨cs,E,by rw[q4 b (Array.getElem?_eq_some_iff.1 hbk).1 e1 e2];exact hbk,rfl⟩
end SW
