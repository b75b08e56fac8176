/- Part of a machine over plain values. No conditions. -/
import Derived.Test.YtdmopjgjhfhfdaaGreatDoorAMSnd8
set_option linter.all false
namespace Go.AM
section
variable {P:Program} {ty:Nat→Option TI} {n:Nat} {o:Oper} {e:Env} {h:Heap} {K:AK}
def Gh.grow (g:Gh) (b p:Nat) (o:aY):Gh:={ pre:=fun b'=>if b'=b then p else g.pre b',own:=fun b'=>if b'=b then some o else g.own b',ρ:=g.ρ,σ:=g.σ,sown:=g.sown }
theorem kU {g:Gh} {w:World} {b p:Nat} {o:aY} {cur row:Array Value} {E:TypeId} (hb:w.heap[b]?=some (.cells cur E (0,0))) (hp:g.pre b≤p) (hrow:∀k,k<g.pre b→row[k]?=cur[k]?)
 {b' k:Nat} {v:Value} (hv:bR g w b' k=some v):bR (g.grow b p o) (w.setRow b row) b' k=some v:=by
 simp only[cI]at hv ⊢
 by_cases e1:b'=b
 ·subst e1
  split at hv
  ·rename_i hk
   simp only[Gh.grow,if_true];rw[if_pos (by omega),dx (setRow_heap _ _ _ _ _ _ hb),hrow k hk,←dx hb];exact hv
  ·cases hv
 ·simp only[Gh.grow,if_neg e1]
  split at hv
  ·rename_i hk;rw[if_pos hk,cell_setRow_other _ _ _ _ e1];exact hv
  ·cases hv
theorem aH.grow {g:Gh} {w:World} {dom:Nat→Prop} {b p:Nat} {o o0:aY} {cur row:Array Value} {E:TypeId} (hb:w.heap[b]?=some (.cells cur E (0,0))) (hp:g.pre b≤p)
 (hrow:∀k,k<g.pre b→row[k]?=cur[k]?) (ho:g.own b=some o0) (hs:row.size=cur.size) {ow:Option aY} (hne:ow≠some o0) {v:Value} {x:AV} (r:aH g w dom ow v x):aH (g.grow b p o) (w.setRow b row) dom ow v x:=by
 refine aH.keep (g:=g) (g':=g.grow b p o) (w:=w) (w':=w.setRow b row) (fun _ _ _ hv=>kU hb hp hrow hv) (fun k hk=>⟨hk,rfl⟩) (fun k cs F hk hc=>?_) (fun o1 b1 e1 h1=>?_) r
 ·by_cases hkl:g.ρ k=b
  ·rw[hkl]at hc ⊢
   rw[hb]at hc;cases hc;exact⟨row,E,setRow_heap _ _ _ _ _ _ hb,hs⟩
  ·exact⟨cs,F,by rw[setRow_other _ _ _ _ hkl];exact hc,rfl⟩
 ·have hbl:b1≠b:=fun eq=>by subst eq;rw[ho]at h1;cases h1;exact hne e1
  exact⟨by simp[Gh.grow,hbl,h1],by simp[Gh.grow,hbl],setRow_other _ _ _ _ hbl⟩
theorem gj.grow {g:Gh} {w:World} {h:Heap} (r:gj g w h) {b p t:Nat} {o:aY} {cur row:Array Value} {E:TypeId} (hb:w.heap[b]?=some (.cells cur E (0,0))) (hp:g.pre b≤p)
 (hrow:∀k,k<g.pre b→row[k]?=cur[k]?) (ho:g.own b=some (.slot t)) (hs:row.size=cur.size):gj (g.grow b p o) (w.setRow b row) h:=by
 have hne:∀l x,aG h l=some x→x.dK=true→g.ρ l≠b:=fun l x hx hq e=>by have:=r.own l x hx hq;rw[e,ho]at this;cases this
 refine⟨fun l x hx=>?_,fun l x hx hq=>?_,fun l x hx hq=>?_⟩
 ·have eo:x.dK=true→(w.setRow b row).heap[g.ρ l]?=w.heap[g.ρ l]?:=fun hq=>setRow_other _ _ _ _ (hne l x hx hq)
  cases r.obj l x hx with
  |cells cs vs E' hb' hl hx' h1=>exact .cells cs vs E' ((eo rfl).trans hb') hl (fun j v c q1 q2=>(hx' j v c q1 q2).grow hb hp hrow ho hs (by simp)) h1
  |arr xs vs E' hb' hl hx' h1=>exact .arr xs vs E' ((eo rfl).trans hb') hl (fun j v c q1 q2=>(hx' j v c q1 q2).mono fun _ _ _ hv=>kU hb hp hrow hv) h1
  |bK gb gvs hgl=>exact gG.kP hgl (fun h1 _ _=>by have hne:gb≠b:=(fun e=>by subst e;rw[ho]at h1;cases h1);exact⟨setRow_other _ _ _ _ hne,by simp[Gh.grow,hne,h1]⟩)
  |store T3 o3 sp3 nx3 z3 M3 hst=>exact .store T3 o3 sp3 nx3 z3 M3 (hst.mono (fun _ _ _ hv=>kU hb hp hrow hv) (fun bb hb2=>by have hne:bb≠b:=(fun e=>by subst e;rw[ho]at hb2;cases hb2);exact⟨by simp[Gh.grow,hne,hb2],setRow_other _ _ _ _ hne,by simp[Gh.grow,hne]⟩) hst.sown)
 ·show(g.grow b p o).own (g.ρ l)=_
  simp[Gh.grow,hne l x hx hq,r.own l x hx hq]
 ·show(g.grow b p o).pre (g.ρ l)=_
  simp[Gh.grow,hne l x hx hq,r.pre l x hx hq]
theorem Ext.grow {g:Gh} {w:World} {b p:Nat} {o o0:aY} {cur row:Array Value} {E:TypeId} (hb:w.heap[b]?=some (.cells cur E (0,0))) (hp:g.pre b≤p)
 (hrow:∀k,k<g.pre b→row[k]?=cur[k]?) (ho:g.own b=some o0) (hsz:row.size=cur.size):Ext g w (g.grow b p o) (w.setRow b row):=by
 refine⟨by rw[setRow_size];exact Nat.le_refl _,rfl,rfl,fun b' k v hv=>kU hb hp hrow hv,fun b' hbb hno=>?_,rO.of rfl rfl,fun a _=>mF hb a,fun _ _=>rfl,fun b' cs E' hb'=>?_⟩
 ·have e1:b'≠b:=fun eq=>by subst eq;rw[ho]at hno;cases hno
  exact⟨setRow_other _ _ _ _ e1,by simp[Gh.grow,e1],by simp[Gh.grow,e1,hno]⟩
 ·by_cases hbl:b'=b
  ·subst hbl;rw[hb]at hb';cases hb';exact⟨row,E,setRow_heap _ _ _ _ _ _ hb,hsz⟩
  ·exact⟨cs,E',by rw[setRow_other _ _ _ _ hbl];exact hb',rfl⟩
theorem cp.C9 {g:Gh} {w:World} {n:Nat} {a:Act} {e:Env} {h:Heap} (s:cp g w n a e h) {t:Nat} {sz:Nat} {xs:List PV} (ht:aL e t=.so sz xs):cp g w n a ((t,.p (.sl sz xs))::e) h:=by
 refine⟨s.defers,s.size,fun i=>?_,s.heap,s.bnd⟩
 by_cases hi:t=i
 ·subst hi;rw[bw];have:=s.env t;rw[ht]at this;exact this.copy
 ·rw[bN hi];exact s.env i
theorem cp.sQ {g:Gh} {w:World} {n:Nat} {a:Act} {e e':Env} {h:Heap} (s:cp g w n a e h) (he:∀i,aL e' i=aL e i):cp g w n a e' h:=
 ⟨s.defers,s.size,fun i=>by rw[he i];exact s.env i,s.heap,s.bnd⟩
theorem Aq {d s:Nat} (hne:d≠s) (x y:AV) (e:Env) (i:Nat):aL ((s,y)::(d,x)::e) i=aL ((d,x)::(s,y)::e) i:=by
 by_cases h1:s=i
 ·subst h1;rw[bw,bN hne,bw]
 ·rw[bN h1]
  by_cases h2:d=i
  ·subst h2;rw[bw,bw]
  ·rw[bN h2,bN h2,bN h1]
theorem vK (hty:bz P ty) {t t2 el el2:TypeId} {j:TI} (hu:P.underlying t=some (.slice el)) (hu2:P.underlying t2=some (.slice el2)) (hj:ty el=some j) (hs0:0<j.size) (hb0:j.bytes≠0)
 {g:Gh} {w:World} {a:Act} {e':Env} {h':Heap} (s:cp g w n a e' h') {d sl:Nat} {ax:Option Addr} {cap:Nat} {xs ys:List PV} {v2:Value} {F2:Nat→Value} {a2:Option Addr} {cap2:Nat}
 (hv2:v2=.slice a2 ys.length cap2) (hF2:Ej (bR g w) a2 j.size ys F2) (hp:aZ (bR g w) (.slice ax xs.length cap) (.sl j.size xs))
 (hcap:cap=xs.length∨∃(ad:Addr) (cs:Array Value) (E:TypeId),ax=some ad∧g.own ad.block=some (.slot sl)∧g.pre ad.block=ad.off+xs.length*j.size∧w.heap[ad.block]?=some (.cells cs E (0,0))∧ad.off+cap*j.size≤cs.size)
 (hsl:∀sz zs,aL e' sl≠.so sz zs) (hroom:(xs.length+ys.length)*j.bytes≤140737488355328) (u:TypeId):
 ∃v' g' w',(Builtin.append_ #[t,t2] u #[.slice ax xs.length cap,v2]).run P w=.ok v' w'∧cp g' w' n a e' h'∧Ext g w g' w'∧aH g' w' (aF h') (some (.slot d)) v' (.so j.size (xs++ys)):=by
 obtain⟨inf,z,i1,i2,i3,i4,i5,i6⟩:=(hty el j hj).inf;obtain⟨_,hlc,F,hF⟩:=hp.NY;subst hv2
 by_cases hfit:xs.length+ys.length≤cap
 ·by_cases hy0:ys=[]
  · -- nothing is appended
   subst hy0;have hy:=eR (P:=P) (len:=0) (cap:=cap2) hF2 rfl;have hrun:=lG hu hu2 i1 i2 (w:=w) (w':=w) (a:=ax) (len:=xs.length) (len2:=0) (cap:=cap) (by simpa using hfit) (by simpa using hy) (fun b hb=>by simp[storeCells]) (fun _=>rfl) u;simp only[List.length_nil,Nat.add_zero,List.append_nil]at hrun ⊢;rcases hcap with rfl|⟨ad,cs,E,rfl,ho,hpre,hb,hsz⟩
   ·exact⟨_,g,w,hrun,s,Ext.refl _ _,.full _ ax j.size xs hs0 hp⟩
   ·refine⟨_,g.relabel ad.block (.slot d),w,hrun,?_,Ext.relabel ho,.own (.slot d) ad cap j.size xs cs E hs0 hp (by simp[Gh.relabel]) hpre hb hsz⟩
    refine⟨s.defers,s.size,fun i=>?_,s.heap.relabel ho,fun b o2 hb2=>?_⟩
    ·by_cases hi:sl=i
     ·subst hi
      have:=s.env sl
      cases hc:aL e' sl with
      |so sz zs=>exact absurd hc (hsl sz zs)
      |_=>rw[hc]at this;exact(this.bW (ow':=none) (fun _ _ q=>by cases q)).relabel (o':=.slot d) ho (by simp) |>.bW (fun _ _ q=>by cases q)
     ·exact(s.env i).relabel ho (by simp;exact fun q=>hi q.symm)
    ·by_cases hbe:b=ad.block
     ·subst hbe;exact s.bnd _ _ ho
     ·simp only[Gh.relabel,if_neg hbe]at hb2;exact s.bnd _ _ hb2
  · -- in place
   have hly:0<ys.length:=List.length_pos_iff.2 hy0;rcases hcap with rfl|⟨ad,cs,E,rfl,ho,hpre,hb,hsz⟩
   ·omega
   ·have hspot:=hp.spot (by omega)
    have hy:=eR (P:=P) (len:=ys.length) (cap:=cap2) hF2 rfl;have hle1:(xs.length+ys.length)*j.size≤cap*j.size:=Nat.mul_le_mul_right _ hfit;have hmul:(xs.length+ys.length)*j.size=xs.length*j.size+ys.length*j.size:=Nat.add_mul _ _ _;have hlen2:((List.range (ys.length*j.size)).map F2).length=ys.length*j.size:=by simp
    have hone2:∀v∈(List.range (ys.length*j.size)).map F2,v.oneCell'=true:=by
     intro v hv;obtain⟨k,hk,rfl⟩:=List.mem_map.1 hv;obtain⟨b2,hb2⟩:=hF2.ad hy0;subst hb2;exact(hF2.all (by simpa using hk)).2
    have hst:=run_storeCells_at (P:=P) ad.block (ad.off+xs.length*j.size) E ((List.range (ys.length*j.size)).map F2) 0 cs w hb (by rw[hlen2];omega) hone2;simp only[Nat.add_zero]at hst;have hrun:=lG hu hu2 i1 i2 (w:=w) (a:=some ad) (cap:=cap) hfit hy (fun b q=>by cases q;rw[Addr.eB hspot];exact hst) (fun q=>by cases q) u;have hsl':=fz cs.toList ((List.range (ys.length*j.size)).map F2) (ad.off+xs.length*j.size) (by rw[hlen2];simp;omega);have hsg:=ju cs.toList ((List.range (ys.length*j.size)).map F2) (ad.off+xs.length*j.size) (by rw[hlen2];simp;omega);generalize hrow:(cs.toList.take (ad.off+xs.length*j.size)++(List.range (ys.length*j.size)).map F2++cs.toList.drop (ad.off+xs.length*j.size+((List.range (ys.length*j.size)).map F2).length))=row at hst hrun hsl' hsg;have hrows:row.toArray.size=cs.size:=by simpa using hsl'
    have hkeep:∀k,k<g.pre ad.block→row.toArray[k]?=cs[k]?:=by
     intro k hk;rw[hpre]at hk;rw[List.getElem?_toArray,hsg k,if_neg (by omega)];simp
    have hple:g.pre ad.block≤ad.off+(xs.length+ys.length)*j.size:=by rw[hpre];omega
    refine⟨_,g.grow ad.block (ad.off+(xs.length+ys.length)*j.size) (.slot d),w.setRow ad.block row.toArray,hrun,?_,Ext.grow hb hple hkeep ho hrows,?_⟩
    ·refine⟨s.defers,s.size,fun i=>?_,s.heap.grow hb hple hkeep ho hrows,fun b o2 hb2=>?_⟩
     ·by_cases hi:sl=i
      ·subst hi
       have:=s.env sl
       cases hc:aL e' sl with
       |so sz zs=>exact absurd hc (hsl sz zs)
       |_=>rw[hc]at this;exact(((this.bW (ow':=none) (fun _ _ q=>by cases q)).grow hb hple hkeep ho hrows (by simp))).bW (fun _ _ q=>by cases q)
      ·exact(s.env i).grow hb hple hkeep ho hrows (by simp;exact fun q=>hi q.symm)
     ·rw[setRow_size]
      by_cases hbe:b=ad.block
      ·subst hbe;exact s.bnd _ _ ho
      ·simp only[Gh.grow,if_neg hbe]at hb2;exact s.bnd _ _ hb2
    ·have himm:∀k,k<(xs.length+ys.length)*j.size→bR (g.grow ad.block (ad.off+(xs.length+ys.length)*j.size) (.slot d)) (w.setRow ad.block row.toArray) ad.block (ad.off+k)=row[ad.off+k]?:=by
      intro k hk;simp only[cI];simp only[Gh.grow,if_true];rw[if_pos (by omega),dx (setRow_heap _ _ _ _ _ _ hb)];simp
     have hS:Ej (bR (g.grow ad.block (ad.off+(xs.length+ys.length)*j.size) (.slot d)) (w.setRow ad.block row.toArray)) (some ad) j.size (xs++ys) (fun k=>if k<xs.length*j.size then F k else F2 (k-xs.length*j.size)):=by
      refine⟨fun x hx=>?_,fun _=>⟨ad,rfl⟩,fun b q _=>by cases q;exact hspot,fun b jj x i y q hx hi=>?_⟩
      ·rcases List.mem_append.1 hx with hx|hx
       ·exact hF.hz x hx
       ·exact hF2.hz x hx
      ·cases q
       by_cases hjj:jj<xs.length
       ·rw[List.getElem?_append_left hjj]at hx
        have hi':i<j.size:=by have:=(List.getElem?_eq_some_iff.1 hi).1;have:=hF.hz x (List.mem_of_getElem? hx);omega
        have hk:jj*j.size+i<xs.length*j.size:=by
         have:(jj+1)*j.size≤xs.length*j.size:=Nat.mul_le_mul_right _ hjj;rw[Nat.add_mul]at this;omega
        obtain⟨q1,q2,q3⟩:=hF.cell ad jj x i y rfl hx hi;simp only[if_pos hk];exact⟨kU hb hple hkeep q1,q2,q3.mono fun _ _ _ hv=>kU hb hple hkeep hv⟩
       ·have hjj:xs.length≤jj:=by omega
        rw[List.getElem?_append_right hjj]at hx;have hi':i<j.size:=by have:=(List.getElem?_eq_some_iff.1 hi).1;have:=hF2.hz x (List.mem_of_getElem? hx);omega
        have hjl:jj-xs.length<ys.length:=(List.getElem?_eq_some_iff.1 hx).1;have ek:jj*j.size=(jj-xs.length)*j.size+xs.length*j.size:=by rw[←Nat.add_mul];congr 1;omega
        have hk2:(jj-xs.length)*j.size+i<ys.length*j.size:=by
         have:(jj-xs.length+1)*j.size≤ys.length*j.size:=Nat.mul_le_mul_right _ hjl;rw[Nat.add_mul]at this;omega
        obtain⟨b2,hb2⟩:=hF2.ad hy0;subst hb2;obtain⟨q1,q2,q3⟩:=hF2.cell b2 (jj-xs.length) x i y rfl hx hi;have hnk:¬jj*j.size+i<xs.length*j.size:=by omega
        have ekk:jj*j.size+i-xs.length*j.size=(jj-xs.length)*j.size+i:=by omega
        simp only[if_neg hnk,ekk];refine⟨?_,q2,q3.mono fun _ _ _ hv=>kU hb hple hkeep hv⟩;rw[himm _ (by omega),hsg,if_pos (by rw[hlen2];omega)];rw[show ad.off+(jj*j.size+i)-(ad.off+xs.length*j.size)=(jj-xs.length)*j.size+i by omega];simp[hk2]
     have hpp:=hS.Nn (cap:=cap) (by simpa using hfit) (fun _=>hspot);have:=aH.own (g:=g.grow ad.block (ad.off+(xs.length+ys.length)*j.size) (.slot d)) (w:=w.setRow ad.block row.toArray) (dom:=aF h') (.slot d) ad cap j.size (xs++ys) row.toArray E hs0 hpp (by simp[Gh.grow]) (by simp[Gh.grow]) (setRow_heap _ _ _ _ _ _ hb) (by rw[hrows];exact hsz);simpa using this
 · -- a new block
  have hfit':cap<xs.length+ys.length:=by omega
  have sd:∀k,cp g { w with drawn:=k } n a e' h':=fun k=>s.drew;have hxc:∀k,(Builtin.firstCells j.size xs.length (.slice ax xs.length cap)).run P { w with drawn:=k }=.ok ((List.range (xs.length*j.size)).map F).toArray { w with drawn:=k }:=fun k=>eR (g:=g) (w:={ w with drawn:=k }) hF rfl;have hy:∀k,(Builtin.firstCells j.size ys.length (.slice a2 ys.length cap2)).run P { w with drawn:=k }=.ok ((List.range (ys.length*j.size)).map F2).toArray { w with drawn:=k }:=fun k=>eR (g:=g) (w:={ w with drawn:=k }) hF2 rfl;obtain⟨c,hc,hrun⟩:=run_append_grow hu hu2 i1 i2 i4 hfit' hlc hxc hy (by rw[i3];exact hroom) (by rw[i3];exact hb0) u;generalize hcells:((List.range (xs.length*j.size)).map F).toArray++((List.range (ys.length*j.size)).map F2).toArray++Builtin.zeroCells z.cells (c-(xs.length+ys.length))=row at hrun;have hmul:(xs.length+ys.length)*j.size=xs.length*j.size+ys.length*j.size:=Nat.add_mul _ _ _;have hzs:z.cells.size=j.size:=by rw[←i6,←i5];simp
  have hsize:row.size=c*j.size:=by
   rw[←hcells];simp only[Array.size_append,List.size_toArray,List.length_map,List.length_range,p9,hzs];rw[←hmul,←Nat.add_mul];congr 1;omega
  have hrow1:∀k,k<xs.length*j.size→row[k]?=some (F k):=by
   intro k hk;rw[←hcells,Array.append_assoc,Array.getElem?_append_left (by simpa using hk)];simp[hk]
  have hrow2:∀k,k<ys.length*j.size→row[xs.length*j.size+k]?=some (F2 k):=by
   intro k hk;rw[←hcells,Array.getElem?_append_left (by simp;omega),Array.getElem?_append_right (by simp)];simp[hk]
  have hext:Ext g w (g.new w.heap.size ((xs.length+ys.length)*j.size) (some (.slot d))) (World.push { w with drawn:=w.drawn+1 } (.cells row el (0,0))):=
   (Ext.drew (k:=w.drawn+1)).trans (Ext.push (w:={ w with drawn:=w.drawn+1 }) (fun b hb=>by simp[Gh.new,Nat.ne_of_lt (show b<w.heap.size from hb)]) (fun a=>gf a) (fun _ _=>rfl))
  have hS:Ej (bR (g.new w.heap.size ((xs.length+ys.length)*j.size) (some (.slot d))) (World.push { w with drawn:=w.drawn+1 } (.cells row el (0,0)))) (some ⟨w.heap.size,0,none⟩) j.size (xs++ys) (fun k=>if k<xs.length*j.size then F k else F2 (k-xs.length*j.size)):=by
   have himm:∀k,k<(xs.length+ys.length)*j.size→bR (g.new w.heap.size ((xs.length+ys.length)*j.size) (some (.slot d))) (World.push { w with drawn:=w.drawn+1 } (.cells row el (0,0))) w.heap.size (0+k)=row[k]?:=by
    intro k hk;simp only[cI];simp only[Gh.new,if_true,Nat.zero_add];rw[if_pos hk,dx (eF (w:={ w with drawn:=w.drawn+1 }))]
   refine⟨fun x hx=>?_,fun _=>⟨_,rfl⟩,fun b q _=>by cases q;rfl,fun b jj x i y q hx hi=>?_⟩
   ·rcases List.mem_append.1 hx with hx|hx
    ·exact hF.hz x hx
    ·exact hF2.hz x hx
   ·cases q
    by_cases hjj:jj<xs.length
    ·rw[List.getElem?_append_left hjj]at hx
     have hi':i<j.size:=by have:=(List.getElem?_eq_some_iff.1 hi).1;have:=hF.hz x (List.mem_of_getElem? hx);omega
     have hk:jj*j.size+i<xs.length*j.size:=by
      have:(jj+1)*j.size≤xs.length*j.size:=Nat.mul_le_mul_right _ hjj;rw[Nat.add_mul]at this;omega
     obtain⟨ad,had⟩:=hF.ad (fun q=>by subst q;simp at hjj);subst had;obtain⟨q1,q2,q3⟩:=hF.cell ad jj x i y rfl hx hi;simp only[if_pos hk];refine⟨by rw[himm _ (by omega)];exact hrow1 _ hk,q2,q3.mono fun _ _ _ hv=>hext.bR _ _ _ hv⟩
    ·have hjj:xs.length≤jj:=by omega
     rw[List.getElem?_append_right hjj]at hx;have hi':i<j.size:=by have:=(List.getElem?_eq_some_iff.1 hi).1;have:=hF2.hz x (List.mem_of_getElem? hx);omega
     have hjl:jj-xs.length<ys.length:=(List.getElem?_eq_some_iff.1 hx).1;have ek:jj*j.size=(jj-xs.length)*j.size+xs.length*j.size:=by rw[←Nat.add_mul];congr 1;omega
     have hk2:(jj-xs.length)*j.size+i<ys.length*j.size:=by
      have:(jj-xs.length+1)*j.size≤ys.length*j.size:=Nat.mul_le_mul_right _ hjl;rw[Nat.add_mul]at this;omega
     obtain⟨b2,hb2⟩:=hF2.ad (fun q=>by subst q;simp at hjl);subst hb2;obtain⟨q1,q2,q3⟩:=hF2.cell b2 (jj-xs.length) x i y rfl hx hi;have hnk:¬jj*j.size+i<xs.length*j.size:=by omega
     have ekk:jj*j.size+i-xs.length*j.size=(jj-xs.length)*j.size+i:=by omega
     simp only[if_neg hnk,ekk];refine⟨?_,q2,q3.mono fun _ _ _ hv=>hext.bR _ _ _ hv⟩;rw[himm _ (by omega),show jj*j.size+i=xs.length*j.size+((jj-xs.length)*j.size+i) by omega];exact hrow2 _ hk2
  refine⟨_,g.new w.heap.size ((xs.length+ys.length)*j.size) (some (.slot d)),_,hrun,(sd (w.drawn+1)).wJ _ _ _,hext,?_⟩;have hpp:=hS.Nn (cap:=c) (by simpa using hc) (fun _=>rfl)
  have:=aH.own (g:=g.new w.heap.size ((xs.length+ys.length)*j.size) (some (.slot d))) (w:=World.push { w with drawn:=w.drawn+1 } (.cells row el (0,0))) (dom:=aF h') (.slot d) ⟨w.heap.size,0,none⟩ c j.size (xs++ys) row el hs0 hpp
   (by simp[Gh.new]) (by simp[Gh.new]) (eF (w:={ w with drawn:=w.drawn+1 })) (by simp only[Nat.zero_add];rw[hsize];exact Nat.le_refl _)
  simpa using this
theorem CU {M:Mm} {sz:Nat} {xs ys:List PV} {F F2:Nat→Value} {row:Array Value}
 (h1:∀(j:Nat) (x:PV) (i:Nat) (y:PV),xs[j]?=some x→x.cells[i]?=some y→row[j*sz+i]?=some (F (j*sz+i))∧(F (j*sz+i)).oneCell'=true∧aZ M (F (j*sz+i)) y)
 (h2:∀(j:Nat) (x:PV) (i:Nat) (y:PV),ys[j]?=some x→x.cells[i]?=some y→row[xs.length*sz+(j*sz+i)]?=some (F2 (j*sz+i))∧(F2 (j*sz+i)).oneCell'=true∧aZ M (F2 (j*sz+i)) y):
 ∀(j:Nat) (x:PV),(xs++ys)[j]?=some x→∀(i:Nat) (y:PV),x.cells[i]?=some y→∃v,row[j*sz+i]?=some v∧v.oneCell'=true∧aZ M v y:=by
 intro j x hx i y hi
 by_cases hj:j<xs.length
 ·rw[List.getElem?_append_left hj]at hx
  exact⟨_,h1 j x i y hx hi⟩
 ·rw[List.getElem?_append_right (by omega)]at hx
  have:=h2 (j-xs.length) x i y hx hi;rw[show xs.length*sz+((j-xs.length)*sz+i)=j*sz+i by rw[←Nat.add_assoc,←Nat.add_mul];congr 2;omega]at this;exact⟨_,this⟩
theorem cp.Cd {g:Gh} {w:World} {n:Nat} {a:Act} {e:Env} {h h2:Heap} (s:cp g w n a e h) (hh:∀l,aG h2 l=aG h l):cp g w n a e h2:=by
 have hd:∀k,aF h k→aF h2 k:=fun k hk=>by unfold aF at hk ⊢;rw[hh k];exact hk
 refine⟨s.defers,s.size,fun i=>(s.env i).rm hd,⟨fun l x hx=>?_,fun l x hx=>s.heap.own l x (by rw[←hh l];exact hx),fun l x hx=>s.heap.pre l x (by rw[←hh l];exact hx)⟩,s.bnd⟩;rw[hh l]at hx
 cases s.heap.obj l x hx with
 |cells cs vs E hb hl hx' h1=>exact .cells cs vs E hb hl (fun j v c q1 q2=>(hx' j v c q1 q2).rm hd) h1
 |arr xs vs E hb hl hx' h1=>exact .arr xs vs E hb hl hx' h1
 |bK gb gvs hgl=>exact .bK gb gvs hgl
 |store T3 o3 sp3 nx3 z3 M3 hst=>exact .store T3 o3 sp3 nx3 z3 M3 hst
theorem zM (hty:bz P ty) (hd:∀d,o.dst=some d→d<n) {x y:Operand} {t t2:Nat} (ho:o.op=.call { callee:=.builtin .append,args:=⟨[x,y]⟩,argTypes:=⟨[t,t2]⟩ })
 (hk:tU ty o e h t t2 x (ev e y) K):∃f,K f∧cF P n o e h f:=by
 have m1:x∈o.op.operands:=by simp[ho,Op.operands,Call.operands]
 have m2:y∈o.op.operands:=by simp[ho,Op.operands,Call.operands]
 have hrun:∀(a:Act) (w w':World) (v:Value),(∀u,(Builtin.append_ #[t,t2] u #[a.eval x,a.eval y]).run P w=.ok v w')→(execOp a.eval o).run P w=.ok (.value v) w':=by
  intro a w w' v hl;obtain⟨cs,hcs⟩:=cc (P:=P) ho a w;rw[hcs];simp only[builtin,List.map_cons,List.map_nil,Sem.run_bind];rw[hl];rfl
 unfold tU at hk;split at hk
 ·rename_i i hi ht2
  obtain⟨el2,hu2⟩:=jz hty ht2;split at hk
  ·rename_i el hde
   have hu:=(hty t i hi).und;rw[hde]at hu;split at hk
   ·rename_i j hj
    split at hk
    ·rename_i ys d hnz hys hdd
     have hnz:j.size*j.bytes≠0:=fun q=>by rw[q]at hnz;cases hnz
     have hs0:0<j.size:=Nat.pos_of_ne_zero fun q=>hnz (by rw[q,Nat.zero_mul]);have hb0:j.bytes≠0:=fun q=>hnz (by rw[q,Nat.mul_zero]);split at hk
     ·rename_i x _ _ hx
      obtain⟨hroom,hk⟩:=hk;refine⟨_,hk,fun e' h' he _ g w a s=>?_⟩;obtain⟨_,r1⟩:=s.cN he m1 hx;obtain⟨_,r2⟩:=s.cN he m2 rfl;obtain⟨a2,cap2,F2,hv2,hF2⟩:=wO r2 hys;generalize hv:a.eval x=v at r1
      cases r1 with
      |cu=>
       have key:∀u,∃v' g' w',(Builtin.append_ #[t,t2] u #[.slice none ([]:List PV).length 0,a.eval y]).run P w=.ok v' w'∧cp g' w' n a e' h'∧Ext g w g' w'∧aH g' w' (aF h') (some (.slot d)) v' (.so j.size ([]++ys)):=fun u=>
        vK hty hu hu2 hj hs0 hb0 s (sl:=n) hv2 hF2 (.nil j.size) (.inl rfl) (fun sz zs q=>by
         have:=s.env n;rw[q,show a.tmps.getD n undef=undef by simp[s.size]]at this
         cases this) (by simpa using hroom) u
       obtain⟨v',g',w',q1,q2,q3,q4⟩:=key o.type;refine Oper.cj (v:=v') (w':=w') ?_ ⟨g',?_,q3⟩
       ·obtain⟨cs,hcs⟩:=cc (P:=P) ho a w
        rw[hcs];simp only[builtin,List.map_cons,List.map_nil,Sem.run_bind,hv];simp only[List.length_nil]at q1;rw[q1];rfl
       ·rw[hdd];simpa using q2.put (hd d hdd) q4
     ·rename_i sz xs st hx
      split at hk
      ·rename_i hsz hne
       obtain rfl:sz=j.size:=Nat.eq_of_beq_eq_true hsz;have hne:d≠st:=fun q=>by rw[q,lH]at hne;cases hne
       obtain⟨hroom,hk⟩:=hk;refine⟨_,hk,fun e' h' he _ g w a s=>?_⟩;have hslot:st∈slotsOf o:=by simp[slotsOf,ho,Op.operands,Call.operands]
       have hst:aL e' st=.so j.size xs:=by rw[he st hslot];exact hx
       have r1:=s.env st;rw[hst]at r1;obtain⟨_,r2⟩:=s.cN he m2 rfl;obtain⟨a2,cap2,F2,hv2,hF2⟩:=wO r2 hys;have s1:=s.C9 hst
       have core:∀ax cap,a.eval (.tmp st)=.slice ax xs.length cap→aZ (bR g w) (.slice ax xs.length cap) (.sl j.size xs)→
        (cap=xs.length∨∃(ad:Addr) (cs:Array Value) (E:TypeId),ax=some ad∧g.own ad.block=some (.slot st)∧g.pre ad.block=ad.off+xs.length*j.size∧w.heap[ad.block]?=some (.cells cs E (0,0))∧ad.off+cap*j.size≤cs.size)→
        o.wp P a w (fun a' w'=>∃g',cp g' w' n a' ([(d,AV.so j.size (xs++ys)),(st,AV.p (.sl j.size xs))].reverse++e') (([]:Heap).reverse++h')∧Ext g w g' w') (fun _ _ _=>False):=by
        intro ax cap hv hp hcap;obtain⟨v',g',w',q1,q2,q3,q4⟩:=vK hty hu hu2 hj hs0 hb0 s1 (d:=d) (sl:=st) hv2 hF2 hp hcap (fun sz zs q=>by rw[bw]at q;cases q) hroom o.type;refine Oper.cj (v:=v') (w':=w') ?_ ⟨g',?_,q3⟩
        ·obtain⟨cs,hcs⟩:=cc (P:=P) ho a w
         rw[hcs];simp only[builtin,List.map_cons,List.map_nil,Sem.run_bind,hv];rw[q1];rfl
        ·rw[hdd]
         exact(q2.put (hd d hdd) q4).sQ (fun i=>by simp only[List.reverse_cons,List.reverse_nil,List.nil_append,List.cons_append];exact Aq hne _ _ _ i)
       generalize hval:a.tmps.getD st undef=u at r1
       cases r1 with
       |full _ ad _ _ hz hp=>exact core ad xs.length hval hp (.inl rfl)
       |own _ ad cap _ _ cs E hz hp how hpre hb hs=>exact core (some ad) cap hval hp (.inr ⟨ad,cs,E,rfl,how,hpre,hb,hs⟩)
      ·exact hk.elim
     ·exact hk.elim
    ·exact hk.elim
   ·exact hk.elim
  ·exact hk.elim
 ·exact hk.elim
end
end Go.AM
