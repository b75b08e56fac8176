/- Contracts, and the law, for every input. No conditions. -/
import Derived.Test.YtldppkdekklpkaaGreatDoorTK2
import Derived.Shelf.LaysC
import Derived.Ground.NamesProg
import Derived.Shelf.Strconv.ParseIntPublic10
import Derived.Test.YtldppkdekklpkaaGreatDoorTS2
import Derived.Test.YtldppkdekklpkaaGreatDoorAMPan
set_option linter.all false
section
open Go Go.AM Go.Proofs
set_option maxRecDepth 100000
namespace TK
theorem split_spec (l:Bs) (sep:ByteArray) (hs:sep=B [32]) (hl:l.length≤1048576):APure Tryz.prog 191 [.p (.s (B l)),.p (.s sep)] (.p (.sl 1 ((splitF 32 l).map eStr))):=by
 have h:=genSplit_spec l 32 hl;rw[←hs]at h;refine APure.intro (tyOf_ok Tryz.prog) hmix Tryz.func191 rfl (by rfl) (by kernel_rfl) (by show 2≤_;decide) rfl ?_;(conv=>whnf);refine apc h ?_;(conv=>whnf);exact .inl rfl
theorem words_spec:APure Tryz.prog 139 [] (.p (.sl 1 (wordsL.map eStr))):=by
 have h:=split_spec keysL (B [32]) rfl (by decide);rw[show splitF 32 keysL=wordsL from rfl]at h;refine APure.intro (tyOf_ok Tryz.prog) hmix Tryz.func139 rfl (by rfl) (by kernel_rfl) (by show 0≤_;decide) rfl ?_;(conv=>whnf);refine apc h ?_;(conv=>whnf);exact .inl rfl
def idxF (x:Bs):List Bs→Nat→Int
 | [],_=>-1
 |a::r,k=>bif x==a then (k:Int) else idxF x r (k+1)
theorem idxF_ge (x:Bs):∀(l:List Bs) (k:Nat),decide (idxF x l k≥0)=l.contains x
 | [],k=>by simp[idxF]
 |a::r,k=>by
  rw[idxF,List.contains_cons]
  cases h:x==a with
  |true=>simp
  |false=>rw[cond_false,idxF_ge x r (k+1),Bool.false_or]
theorem sidx_spec (l:List Bs) (x:Bs) (hb:l.length<9223372036854775807):APure Tryz.prog 117 [.p (.sl 1 (l.map eStr)),.p (.s (B x))] (.p (.i .i64 (idxF x l 0))):=by
 refine APure.intro (tyOf_ok Tryz.prog) hmix Tryz.func117 rfl (by rfl) (by kernel_rfl) (by show 2≤_;decide) rfl ?_;(conv=>whnf);refine loopS (tyOf_ok _) hmix (by kernel_rfl) l.length [0,1,6,7,8] [] (fun k _=>[.p (.sl 1 (l.map eStr)),.p (.s (B x)),.p (.sl 1 (l.map eStr)),.p (.i .i64 (l.map eStr).length),.p (.i .i64 (ix k))]) (fun _ _=>[]) (fun k _=>idxF x l 0=idxF x (l.drop k) k) () ⟨rfl,rfl,rfl,rfl⟩ rfl ?_;intro k s hk hn;(conv=>whnf);refine asplit ?_ ?_<;>intro h1<;>conv=>whnf
 ·have hk1:=ix_tt h1 (by simp) hk (by omega)
  obtain⟨b,hb1⟩:∃b,l[k]?=some b:=⟨l[k],by simp[hk1]⟩
  rw[drop_cons hb1,idxF]at hn;refine aidxk (x:=eStr b) (by simp[hb1]) (by omega) ?_;(conv=>whnf);refine asplit ?_ ?_<;>intro h2<;>conv=>whnf
  ·rw[B_beq]at h2
   refine .inl (pi ?_);rw[hn,h2,ix_eq (by omega)];rfl
  ·rw[B_beq]at h2
   exact⟨hk1,(),⟨rfl,rfl,rfl,rfl⟩,by rw[hn,h2];rfl⟩
 ·have hk1:=ix_ff h1 (by simp) hk (by omega)
  rw[hk1,List.drop_length,idxF]at hn;exact .inl (pi hn.symm)
theorem scont_aux (l:AV) (x:Bs) (i:Int) (h:APure Tryz.prog 117 [l,.p (.s (B x))] (.p (.i .i64 i))) (hl:∃s xs,l=.p (.sl s xs)):APure Tryz.prog 102 [l,.p (.s (B x))] (.p (.b (decide (i≥0)))):=by
 obtain⟨s,xs,rfl⟩:=hl;refine APure.intro (tyOf_ok Tryz.prog) hmix Tryz.func102 rfl (by rfl) (by kernel_rfl) (by show 2≤_;decide) rfl ?_;(conv=>whnf);refine apc h ?_;(conv=>whnf);exact .inl rfl
theorem scont_spec (l:List Bs) (x:Bs) (hb:l.length<9223372036854775807):APure Tryz.prog 102 [.p (.sl 1 (l.map eStr)),.p (.s (B x))] (.p (.b (l.contains x))):=by
 rw[←idxF_ge x l 0];exact scont_aux _ x _ (sidx_spec l x hb) ⟨_,_,rfl⟩
end TK
end
section
open Go Go.AM Go.Proofs TK TR
set_option maxRecDepth 100000
end
section
open Go Go.AM Go.Proofs TK TR
set_option maxRecDepth 100000
end
section
open Go Go.AM Go.Proofs TK TR
set_option maxRecDepth 100000
end
section
open Go Go.AM Go.Proofs TK TR
set_option maxRecDepth 100000
end
section
open Go Go.AM Go.Proofs TK TR
set_option maxRecDepth 100000
end
section
open Go Go.AM Go.Proofs TK TR
set_option maxRecDepth 100000
end
section
open Go Go.AM Go.Proofs TK TR
set_option maxRecDepth 100000
end
section
open Go Go.AM Go.Proofs TK TR
set_option maxRecDepth 100000
end
section
open Go Go.AM Go.Proofs TK TR
set_option maxRecDepth 100000
end
section
namespace Go.Proofs
open Go.Shelf
def Tryz.lays174_ren:Go.Shelf.Ren:=⟨fun|174=>128|247=>182|245=>183|287=>231|279=>232|280=>233|281=>234|282=>235|321=>272|322=>273|316=>274|171=>276|205=>275|243=>302|246=>316|283=>319|284=>320|285=>321|286=>322|129=>325|317=>324|318=>326|319=>327|320=>328|337=>329|338=>330|n=>n,fun|9=>9|3=>3|2=>2|75=>204|85=>205|4=>4|167=>291|5=>5|53=>292|175=>293|46=>295|168=>296|37=>247|0=>0|210=>337|21=>21|127=>353|145=>360|143=>358|171=>374|173=>377|212=>383|51=>348|20=>20|213=>384|232=>387|233=>388|80=>147|n=>n,fun|15=>0|16=>1|17=>5|18=>6|19=>7|n=>n⟩
theorem Tryz.lays174:Go.Proofs.LaysC.n174 Tryz.prog Tryz.lays174_ren:={
 mixed:=by kernel_rfl
 f129:=Tryz.func325.trans (congrArg some (by kernel_rfl))
 f171:=Tryz.func276.trans (congrArg some (by kernel_rfl))
 f174:=Tryz.func128.trans (congrArg some (by kernel_rfl))
 f205:=Tryz.func275.trans (congrArg some (by kernel_rfl))
 f243:=Tryz.func302.trans (congrArg some (by kernel_rfl))
 f245:=Tryz.func183.trans (congrArg some (by kernel_rfl))
 f246:=Tryz.func316.trans (congrArg some (by kernel_rfl))
 f247:=Tryz.func182.trans (congrArg some (by kernel_rfl))
 f279:=Tryz.func232.trans (congrArg some (by kernel_rfl))
 f280:=Tryz.func233.trans (congrArg some (by kernel_rfl))
 f281:=Tryz.func234.trans (congrArg some (by kernel_rfl))
 f282:=Tryz.func235.trans (congrArg some (by kernel_rfl))
 f283:=Tryz.func319.trans (congrArg some (by kernel_rfl))
 f284:=Tryz.func320.trans (congrArg some (by kernel_rfl))
 f285:=Tryz.func321.trans (congrArg some (by kernel_rfl))
 f286:=Tryz.func322.trans (congrArg some (by kernel_rfl))
 f287:=Tryz.func231.trans (congrArg some (by kernel_rfl))
 f316:=Tryz.func274.trans (congrArg some (by kernel_rfl))
 f317:=Tryz.func324.trans (congrArg some (by kernel_rfl))
 f318:=Tryz.func326.trans (congrArg some (by kernel_rfl))
 f319:=Tryz.func327.trans (congrArg some (by kernel_rfl))
 f320:=Tryz.func328.trans (congrArg some (by kernel_rfl))
 f321:=Tryz.func272.trans (congrArg some (by kernel_rfl))
 f322:=Tryz.func273.trans (congrArg some (by kernel_rfl))
 f337:=Tryz.func329.trans (congrArg some (by kernel_rfl))
 f338:=Tryz.func330.trans (congrArg some (by kernel_rfl))
 t0:=Tryz.underlying0
 a0:=Tryz.isAgg0
 z0:=Tryz.sizeOf0
 v0:=Tryz.zeroValue0
 t2:=Tryz.underlying2
 a2:=Tryz.isAgg2
 z2:=Tryz.sizeOf2
 v2:=Tryz.zeroValue2
 t3:=Tryz.underlying3
 a3:=Tryz.isAgg3
 z3:=Tryz.sizeOf3
 v3:=Tryz.zeroValue3
 t4:=Tryz.underlying4
 a4:=Tryz.isAgg4
 z4:=Tryz.sizeOf4
 v4:=Tryz.zeroValue4
 t5:=Tryz.underlying5
 a5:=Tryz.isAgg5
 z5:=Tryz.sizeOf5
 v5:=Tryz.zeroValue5
 t9:=Tryz.underlying9
 a9:=Tryz.isAgg9
 z9:=Tryz.sizeOf9
 v9:=Tryz.zeroValue9
 t20:=Tryz.underlying20
 a20:=Tryz.isAgg20
 z20:=Tryz.sizeOf20
 v20:=Tryz.zeroValue20
 t21:=Tryz.underlying21
 a21:=Tryz.isAgg21
 z21:=Tryz.sizeOf21
 v21:=Tryz.zeroValue21
 t37:=Tryz.underlying247
 a37:=Tryz.isAgg247
 z37:=Tryz.sizeOf247
 v37:=Tryz.zeroValue247
 t46:=Tryz.underlying295
 a46:=Tryz.isAgg295
 z46:=Tryz.sizeOf295
 v46:=Tryz.zeroValue295
 t51:=Tryz.underlying348
 a51:=Tryz.isAgg348
 z51:=Tryz.sizeOf348
 v51:=Tryz.zeroValue348
 t53:=Tryz.underlying292
 a53:=Tryz.isAgg292
 z53:=Tryz.sizeOf292
 v53:=Tryz.zeroValue292
 t75:=Tryz.underlying204
 a75:=Tryz.isAgg204
 z75:=Tryz.sizeOf204
 v75:=Tryz.zeroValue204
 t85:=Tryz.underlying205
 a85:=Tryz.isAgg205
 z85:=Tryz.sizeOf205
 v85:=Tryz.zeroValue205
 t127:=Tryz.underlying353
 a127:=Tryz.isAgg353
 z127:=Tryz.sizeOf353
 v127:=Tryz.zeroValue353
 t143:=Tryz.underlying358
 a143:=Tryz.isAgg358
 z143:=Tryz.sizeOf358
 v143:=Tryz.zeroValue358
 t145:=Tryz.underlying360
 a145:=Tryz.isAgg360
 z145:=Tryz.sizeOf360
 v145:=Tryz.zeroValue360
 t167:=Tryz.underlying291
 a167:=Tryz.isAgg291
 z167:=Tryz.sizeOf291
 v167:=Tryz.zeroValue291
 t168:=Tryz.underlying296
 a168:=Tryz.isAgg296
 z168:=Tryz.sizeOf296
 v168:=Tryz.zeroValue296
 t171:=Tryz.underlying374
 a171:=Tryz.isAgg374
 z171:=Tryz.sizeOf374
 v171:=Tryz.zeroValue374
 t173:=Tryz.underlying377
 a173:=Tryz.isAgg377
 z173:=Tryz.sizeOf377
 v173:=Tryz.zeroValue377
 t175:=Tryz.underlying293
 a175:=Tryz.isAgg293
 z175:=Tryz.sizeOf293
 v175:=Tryz.zeroValue293
 t210:=Tryz.underlying337
 a210:=Tryz.isAgg337
 z210:=Tryz.sizeOf337
 v210:=Tryz.zeroValue337
 t212:=Tryz.underlying383
 a212:=Tryz.isAgg383
 z212:=Tryz.sizeOf383
 v212:=Tryz.zeroValue383
 t213:=Tryz.underlying384
 a213:=Tryz.isAgg384
 z213:=Tryz.sizeOf384
 t232:=Tryz.underlying387
 a232:=Tryz.isAgg387
 z232:=Tryz.sizeOf387
 v232:=Tryz.zeroValue387
 t233:=Tryz.underlying388
 a233:=Tryz.isAgg388
 z233:=Tryz.sizeOf388
 v233:=Tryz.zeroValue388
 g15:=by kernel_rfl
 g16:=by kernel_rfl
 g17:=by kernel_rfl
 g18:=by kernel_rfl
 g19:=by kernel_rfl
 t80:=Tryz.underlying147
 a80:=Tryz.isAgg147
 z80:=Tryz.sizeOf147
 v80:=Tryz.zeroValue147
 i0:=by kernel_rfl
 i2:=by kernel_rfl
 i3:=by kernel_rfl
 i4:=by kernel_rfl
 i5:=by kernel_rfl
 i9:=by kernel_rfl
 i20:=by kernel_rfl
 i21:=by kernel_rfl
 i37:=by kernel_rfl
 i46:=by kernel_rfl
 i51:=by kernel_rfl
 i53:=by kernel_rfl
 i75:=by kernel_rfl
 i80:=by kernel_rfl
 i85:=by kernel_rfl
 i127:=by kernel_rfl
 i143:=by kernel_rfl
 i145:=by kernel_rfl
 i167:=by kernel_rfl
 i168:=by kernel_rfl
 i171:=by kernel_rfl
 i173:=by kernel_rfl
 i175:=by kernel_rfl
 i210:=by kernel_rfl
 i212:=by kernel_rfl
 i232:=by kernel_rfl
 i233:=by kernel_rfl
 m15:=by kernel_rfl
 m16:=by kernel_rfl
 m17:=by kernel_rfl
 m18:=by kernel_rfl
 m19:=by kernel_rfl
 c0:=by kernel_rfl
 c2:=by kernel_rfl
 c3:=by kernel_rfl
 c4:=by kernel_rfl
 c5:=by kernel_rfl
 c9:=by kernel_rfl
 c20:=by kernel_rfl
 c21:=by kernel_rfl
 c37:=by kernel_rfl
 c46:=by kernel_rfl
 c51:=by kernel_rfl
 c53:=by kernel_rfl
 c75:=by kernel_rfl
 c80:=by kernel_rfl
 c85:=by kernel_rfl
 c127:=by kernel_rfl
 c143:=by kernel_rfl
 c145:=by kernel_rfl
 c167:=by kernel_rfl
 c168:=by kernel_rfl
 c171:=by kernel_rfl
 c173:=by kernel_rfl
 c175:=by kernel_rfl
 c210:=by kernel_rfl
 c212:=by kernel_rfl
 c213:=by kernel_rfl
 c232:=by kernel_rfl
 c233:=by kernel_rfl }
end Go.Proofs
open Go Go.AM Go.Proofs TK TR
set_option maxRecDepth 100000
namespace PA
theorem bytesWorld_grow (w:World) (e:TypeId) (t:ByteArray):w.heap.size≤(Lib.bytesWorld w e t).heap.size∧(Lib.bytesWorld w e t).os=w.os∧(Lib.bytesWorld w e t).output=w.output∧∀b,b<w.heap.size→(Lib.bytesWorld w e t).heap[b]?=w.heap[b]?:=by
 refine⟨by rw[Lib.bytesWorld_size];omega,?_,?_,fun b hb=>Lib.bytesWorld_at_old w e t b hb⟩
 ·unfold Lib.bytesWorld;generalize Lib.bytesCells w e t=cs;unfold World.freeze;repeat' split<;>rfl
 ·unfold Lib.bytesWorld;generalize Lib.bytesCells w e t=cs;unfold World.freeze;repeat' split<;>rfl
theorem pi_holds (ev:Value) (hev:ev=.nilIface∨∃te pe,ev=.iface te pe):PIC 1 [ev]:=by
 intro s hs hne;have hbody:hasBody Tryz.prog 128:=TK.body_of Tryz.func128 rfl (by rfl);refine⟨⟨hbody,rfl⟩,fun g w us hh hbn hlen hrel=>?_⟩
 match us,hlen with
 | [u1,u2,u3],_=>
 have r1:=(hrel 0 u1 _ rfl rfl).pv;have r2:=(hrel 1 u2 _ rfl rfl).pv;have r3:=(hrel 2 u3 _ rfl rfl).pv
 cases r1;cases r2;cases r3
 have hob:=hh.obj 1000000000 (.glob 1 [ev]) (hget_self ..)
 cases hob with
 |glob _ _ hgl=>
 obtain⟨hown,E,fr,hblk⟩:=hgl
 have fin:∀(w':World) (v:Value) (b:Bool),ifcOK b v→w.heap.size≤w'.heap.size→w'.os=w.os→w'.output=w.output→(∀b,b<w.heap.size→w'.heap[b]?=w.heap[b]?)→∀n:Int,
  ∃v0 g',Ending.returned (.tuple #[.int .i64 n,v])=Ending.returned v0∧VRel g' w' (domOf [(1000000000,AObj.glob 1 [ev])]) (some .ret) v0 (.tup [.p (.i .i64 n),.ifc b])∧HRel g' w' [(1000000000,AObj.glob 1 [ev])]∧(∀b ow,g'.own b=some ow→b<w'.heap.size)∧Ext g w g' w':=by
  intro w' v b hv h1 h2 h3 h4 n;refine⟨_,g,rfl,?_,glob_hrel hown ⟨E,fr,?_⟩,fun b ow ho=>Nat.lt_of_lt_of_le (hbn b ow ho) h1,ext_grown h1 h2 h3 h4⟩
  ·refine .tup _ [.int .i64 n,v] _ rfl ?_
   intro j x c hj hc
   match j with
   |0=>cases hj;cases hc;exact .p _ _ _ (.i _ _)
   |1=>cases hj;cases hc;exact .ifc _ _ _ hv
   |j+2=>simp at hj
  ·rw[h4 1 (Array.getElem?_eq_some_iff.1 hblk).1];exact hblk
 unfold numV;rcases hp:Lib.parseIntB 64 s.data.toList with v|_|_
 ·refine(Any.strconv_ParseInt_10_at64_ok Tryz.lays174 s (by omega) v hp w).mono ?_
  rintro e w' ⟨rfl,hw⟩;rcases hw with rfl|⟨t,rfl⟩
  ·exact fin w' .nilIface false rfl (Nat.le_refl _) rfl rfl (fun _ _=>rfl) v
  ·obtain⟨k1,k2,k3,k4⟩:=bytesWorld_grow w (Tryz.lays174_ren.t 5) t
   exact fin _ .nilIface false rfl k1 k2 k3 k4 v
 ·rw[hp]at hne;cases hne
 ·refine(Any.strconv_ParseInt_10_at64_range Tryz.lays174 s (by omega) hp ev w ?_ hev).mono ?_
  ·show w.cell? ⟨1,0,none⟩=some ev
   simp[World.cell?,hblk]
  ·rintro e w' ⟨N,rfl,_,_,hB⟩
   exact fin w' _ true ⟨_,_,rfl⟩ hB.size hB.os hB.output hB.block _
end PA
end
section
open Go Go.AM Go.Proofs TK TR
set_option maxRecDepth 100000
namespace PA
def zPg:List AV:=[.p (.s ⟨#[]⟩),.p (.i .i64 0),.nilS,.nilS,.nilS,.nilS,.nilS,.nilS]
theorem HRel.pushed {g:Gh} {w:World} {h:Heap} (hH:HRel g w h) (hbn:∀b ow,g.own b=some ow→b<w.heap.size) (ob:Obj) (hglob:∀l b vs,hget h l=some (.glob b vs)→True):HRel (g.new w.heap.size 0 none) (World.push w ob) h:=by
 have hp:∀b,b<w.heap.size→(g.new w.heap.size 0 none).pre b=g.pre b∧(g.new w.heap.size 0 none).own b=g.own b:=fun b hb=>by simp[Gh.new,Nat.ne_of_lt hb]
 have hd:∀l,domOf h l→domOf h l∧(g.new w.heap.size 0 none).ρ l=g.ρ l:=fun l hl=>⟨hl,rfl⟩
 refine⟨fun l o ho=>?_,fun l o ho hq=>?_,fun l o ho hq=>?_⟩
 ·have hdl:domOf h l:=by simp[domOf,ho]
  exact(hH.obj l o ho).push hp hd hbn hdl
 ·have this:=hH.own l o ho hq
  show(g.new w.heap.size 0 none).own (g.ρ l)=_;rw[(hp _ (hbn _ _ this)).2];exact this
 ·have this:=hH.own l o ho hq
  show(g.new w.heap.size 0 none).pre (g.ρ l)=_;rw[(hp _ (hbn _ _ this)).1];exact hH.pre l o ho hq
theorem catch_none (g:Gh) (w:World) (h:Heap) (p q r:Addr) (hH:HRel g w h) (hbn:∀b ow,g.own b=some ow→b<w.heap.size):
 CallsD Tryz.prog 34 #[.pointer (some p),.pointer (some q),.pointer (some r)] .returning w fun e u' w'=>e=.returned (.tuple #[])∧u'=.returning∧∃g',HRel g' w' h∧(∀l,g'.ρ l=g.ρ l)∧Ext g w g' w':=by
 refine(catch_idle p q r w).mono ?_;rintro e u' w' ⟨rfl,rfl,rfl⟩
 have hw:(w.alloc (.cells #[.int .i64 0] 77)).setCell ⟨w.heap.size,0,none⟩ (.int .i64 0)=World.push w (.cells #[.int .i64 0] 77 (0,0)):=by
  unfold World.setCell World.alloc World.push
  congr 1
  apply Array.ext_getElem?
  intro i;rw[Array.getElem?_modify]
  by_cases hi:w.heap.size=i
  ·subst hi;simp
  ·rw[if_neg hi]
 rw[hw];exact⟨rfl,rfl,g.new w.heap.size 0 none,HRel.pushed hH hbn _ (fun _ _ _ _=>trivial),fun _=>rfl,Ext.push (fun b hb=>by simp[Gh.new,Nat.ne_of_lt hb]) (fun a=>frozen_push a) (fun _ _=>rfl)⟩
end PA
end
section
open Go Go.AM Go.Proofs
set_option maxRecDepth 100000
namespace TK
theorem B_emp (l:Bs):((B l).toList==ByteArray.toList ⟨#[]⟩)=(l==[]):=B_beq l []
theorem word_aux (l:Bs) (W:List Bs) (b:Bool) (h1:APure Tryz.prog 139 [] (.p (.sl 1 (W.map eStr)))) (h2:APure Tryz.prog 102 [.p (.sl 1 (W.map eStr)),.p (.s (B l))] (.p (.b b))):
 APure Tryz.prog 84 [.p (.s (B l))] (.p (.b (!(l==[])&&b))):=by
 refine APure.intro (tyOf_ok Tryz.prog) hmix Tryz.func84 rfl (by rfl) (by kernel_rfl) (by show 1≤_;decide) rfl ?_;(conv=>whnf);refine asplit ?_ ?_<;>intro h<;>conv=>whnf
 ·rw[B_emp]at h
  refine apc h1 ?_;(conv=>whnf);refine apc h2 ?_;(conv=>whnf);exact .inl (pb (by rw[h];rfl))
 ·rw[B_emp]at h
  exact .inl (pb (by rw[h];rfl))
theorem word_spec (l:Bs):APure Tryz.prog 84 [.p (.s (B l))] (.p (.b (wordF l))):=
 word_aux l wordsL _ words_spec (scont_spec wordsL l (by rw[wordsL,split_len];exact Nat.lt_of_le_of_lt (Nat.succ_le_succ (count_le' _ _)) (by decide)))
end TK
end
section
open Go Go.AM Go.Proofs
set_option maxRecDepth 100000
end
section
open Go Go.AM Go.Proofs
set_option maxRecDepth 100000
end
section
open Go Go.AM Go.Proofs
set_option maxRecDepth 100000
end
section
open Go Go.AM Go.Proofs
set_option maxRecDepth 100000
end
section
open Go Go.AM Go.Proofs
set_option maxRecDepth 100000
end
section
open Go Go.AM Go.Proofs
set_option maxRecDepth 100000
end
section
open Go Go.AM Go.Proofs
set_option maxRecDepth 100000
end
section
open Go Go.AM Go.Proofs
set_option maxRecDepth 100000
end
section
open Go Go.AM Go.Proofs
set_option maxRecDepth 100000
end
section
open Go Go.AM Go.Proofs
set_option maxRecDepth 100000
end
section
open Go Go.AM Go.Proofs
set_option maxRecDepth 100000
namespace TR
def elCells (p:LPg):List AV:=[.p (.s p.name),.p (.i .i64 p.ver),.p (.sl 3 (p.uses.map elUse)),.p (.sl 3 (p.datas.map elDt)),.p (.sl 2 (p.traits.map elTr)),.p (.sl 3 (p.impls.map elIm)),.p (.sl 15 (p.funcs.map elFu)),.p (.sl 14 (p.actors.map elAc))]
end TR
end
section
open Go Go.AM Go.Proofs TK TR
set_option maxRecDepth 100000
end
section
open Go Go.AM Go.Proofs TK TR
set_option maxRecDepth 100000
end
section
namespace Go.AM
def over (a:Act) (ds:List Deferred):Act:={ a with defers:=a.defers++ds }
theorem over_eval (a:Act) (ds:List Deferred):(over a ds).eval=a.eval:=by
 funext x
 cases x<;>rfl
theorem over_put (a:Act) (ds:List Deferred) (d:Option Tmp) (v:Value):(over a ds).put d v=over (a.put d v) ds:=by
 cases d<;>rfl
def QOv (ds:List Deferred) (Q:Exit→Act→World→Prop):Exit→Act→World→Prop:=fun x a w=>∃a0,a=over a0 ds∧Q x a0 w
theorem LetsOut.over {ds:List Deferred} {Q:Exit→Act→World→Prop} (h:LetsOut Q):LetsOut (QOv ds Q):=by
 obtain⟨a,w,h⟩:=h;exact⟨AM.over a ds,w,a,rfl,h⟩
theorem wpOps_over {P:Program} {ops:Array Oper} {Q:Exit→Act→World→Prop} (ds:List Deferred):∀(l:List Nat) (a:Act) (w:World),wpOps P ops Q l a w→wpOps P ops (QOv ds Q) l (over a ds) w
 | [],a,w,h=>⟨a,rfl,h⟩
 |i::r,a,w,h=>by
  unfold wpOps at h ⊢;split
  ·rename_i hn;rw[hn]at h;exact wpOps_over ds r a w h
  ·rename_i o hn
   rw[hn]at h;simp only at h;have ht:(over a ds).tmps=a.tmps:=rfl;rw[ht];split
   ·rename_i hw
    rw[if_pos hw]at h;rcases h with h|⟨h,h'⟩
    ·left
     unfold Oper.wp at *;rw[over_eval];generalize (execOp a.eval o).run P w=rr at *;unfold Oper.upon at *;split at h
     ·rw[over_put];exact wpOps_over ds r _ _ h
     ·rw[over_put];exact wpOps_over ds r _ _ h
     ·rename_i d w'
      have:=wpOps_over ds r _ _ h;rw[show({ over a ds with defers:=d::(over a ds).defers }:Act)=over { a with defers:=d::a.defers } ds from rfl,over_put];exact this
     ·refine h.mono ?_
      rintro en w' hen
      cases en with
      |returned v=>
       show wpOps P ops _ r ((over a ds).put o.dst v) w';rw[over_put];exact wpOps_over ds r _ _ hen
      |panicked c=>exact⟨a,rfl,hen⟩
      |outgrown=>exact LetsOut.over hen
     ·refine h.mono (fun v w' h=>?_)
      rw[over_put];exact wpOps_over ds r _ _ h
     ·exact⟨a,rfl,h⟩
     ·exact h.elim
    ·right
     refine⟨?_,LetsOut.over h'⟩;unfold Oper.asks at *;rw[over_eval];exact h
   ·rename_i hw
    rw[if_neg hw]at h;rw[over_put];exact wpOps_over ds r _ _ h
theorem wpOp_over {P:Program} {ops:Array Oper} {Q:Exit→Act→World→Prop} (ds:List Deferred) {i:Nat} {next next':Act→World→Prop} (hn':∀a w,next a w→next' (over a ds) w) (a:Act) (w:World) (h:wpOp P ops Q i next a w):wpOp P ops (QOv ds Q) i next' (over a ds) w:=by
 unfold wpOp at h ⊢;split
 ·rename_i hn;rw[hn]at h;exact hn' a w h
 ·rename_i o hn
  rw[hn]at h;simp only at h;have ht:(over a ds).tmps=a.tmps:=rfl;rw[ht];split
  ·rename_i hw
   rw[if_pos hw]at h;rcases h with h|⟨h,h'⟩
   ·left
    unfold Oper.wp at *;rw[over_eval];generalize (execOp a.eval o).run P w=rr at *;unfold Oper.upon at *;split at h
    ·rw[over_put];exact hn' _ _ h
    ·rw[over_put];exact hn' _ _ h
    ·rename_i d w'
     have:=hn' _ _ h;rw[show({ over a ds with defers:=d::(over a ds).defers }:Act)=over { a with defers:=d::a.defers } ds from rfl,over_put];exact this
    ·refine h.mono ?_
     rintro en w' hen
     cases en with
     |returned v=>
      show next' ((over a ds).put o.dst v) w';rw[over_put];exact hn' _ _ hen
     |panicked c=>exact⟨a,rfl,hen⟩
     |outgrown=>exact LetsOut.over hen
    ·refine h.mono (fun v w' h=>?_)
     rw[over_put];exact hn' _ _ h
    ·exact⟨a,rfl,h⟩
    ·exact h.elim
   ·right
    refine⟨?_,LetsOut.over h'⟩;unfold Oper.asks at *;rw[over_eval];exact h
  ·rename_i hw
   rw[if_neg hw]at h;rw[over_put];exact hn' _ _ h
theorem wpAny_over {P:Program} {md:Region.Mode} {ops:Array Oper} {Q:Exit→Act→World→Prop} (ds:List Deferred):∀(fuel:Nat) (listed:Array Bool) (a:Act) (w:World),wpAny P md ops Q fuel listed a w→wpAny P md ops (QOv ds Q) fuel listed (over a ds) w
 |0,_,a,_,h=>⟨h.1,a,rfl,h.2⟩
 |fuel+1,_,a,_,h=>⟨fun hr=>⟨a,rfl,h.1 hr⟩,fun i hi=>wpOp_over ds (fun a w h=>wpAny_over ds fuel _ a w h) _ _ (h.2 i hi)⟩
section
variable {P:Program} {ty:Nat→Option TI} {n:Nat}
def AWpO (P:Program) (n:Nat) (KP:Value→Prop) (ds:List Deferred) (c:Code) (K:Exit→Env→Heap→Prop) (e:Env) (h:Heap):Prop:=
 ∀g0 w0 g w a,Sim g w n a e h→Ext g0 w0 g w→c.wp P (QOv ds (QOfP n K KP g0 w0)) (over a ds) w
theorem awpO_sound (hty:TyOK P ty) (hmix:P.follows .mixedOrders=true) (ds:List Deferred) {KP:Value→Prop}:∀(c:Code) (K:Exit→Env→Heap→Prop) (e:Env) (h:Heap),codeOK n c=true→awpP ty P KP (fun _ _ _ _=>False) c K e h→AWpO P n KP ds c K e h
 |.skip,K,e,h,_,hk=>fun g0 w0 g w a s hE=>wp_skip (Q:=QOv ds (QOfP n K KP g0 w0)) ⟨a,rfl,g,e,h,hk,s,hE⟩
 |.region id ops false,K,e,h,hok,hk=>fun g0 w0 g w a s hE=>by
  refine wp_region ?_;rw[List.range_eq_range'];refine wpOps_over ds _ _ _ ?_;have:=aopsP_sound hty (by simpa[codeOK] using hok) ops.toList 0 e h g w a (fun j _=>by simp) hk s hE;simpa using this
 |.region id ops true,K,e,h,hok,hk=>fun g0 w0 g w a s hE=>by
  refine wp_region_any hmix (wpAny_over ds _ _ _ _ ?_);have hok':ops.toList.all (okOp n)=true:=by simpa[codeOK] using hok
  obtain⟨fs,e',h',dl,q1,q2,⟨q3,q3'⟩,q4,q5⟩:=aopsD_path (n:=n) hty ops.toList 0 [] e h [] e h (fun o ho=>List.all_eq_true.1 hok' o ho) hk (fun _=>rfl) (fun _=>rfl);simp only[List.append_nil]at q3;have hz:∀i,(Array.replicate ops.size false).getD i false=false:=fun i=>by simp[Array.getD_eq_getD_getElem?,Array.getElem?_replicate];split<;>rfl
  have hnoneE:∀(ws:List Env) (k:Nat) (e:Env),envL ws (fun _=>false) k e=e:=by
   intro ws;induction ws with
   |nil=>intros;rfl
   |cons W r ih=>intro k e;rw[envL];simp only[Bool.false_eq_true,if_false];exact ih _ _
  have hnoneH:∀(ws:List Heap) (k:Nat) (e:Heap),heapL ws (fun _=>false) k e=e:=by
   intro ws;induction ws with
   |nil=>intros;rfl
   |cons W r ih=>intro k e;rw[heapL];simp only[Bool.false_eq_true,if_false];exact ih _ _
  have hunl:unl ops.size (fun i=>(Array.replicate ops.size false).getD i false)≤ops.size:=by
   unfold unl;simpa using List.length_filter_le (fun i=>!(Array.replicate ops.size false).getD i false) (List.range ops.size)
  cases dl with
  |nil=>
   have hw:=region_any hok' (q1.plain rfl) q2 q3 (g0:=g0) (w0:=w0) (K:=fun x e h=>match x with|.normal=>K .normal e h|_=>False) (fun e2 h2 r1 r2=>⟨e',h',q3',fun i=>(q4 i).trans (r1 i).symm,fun i=>(q5 i).trans (r2 i).symm⟩) ops.size (Array.replicate ops.size false) a { w with drawn:=w.drawn+1 } (by simp) hunl
    (by intro j o ho hj;simp only[hz]at hj;cases hj) ⟨g,by simp only[hz,hnoneE,hnoneH];exact s.drew,hE.trans Ext.drew⟩
   refine wpAny_monoQ (fun x a w hq=>?_) _ _ _ _ hw;obtain⟨g,e,h,hk,s,hE⟩:=hq
   cases x with
   |normal=>exact⟨g,e,h,hk,s,hE⟩
   |_=>exact hk.elim
  |cons d dl=>
   exact region_pan hok' q1 q2 q3 (g0:=g0) (w0:=w0) (K:=K) ⟨d,by simp⟩ ops.size (Array.replicate ops.size false) a { w with drawn:=w.drawn+1 } (by simp) hunl
    (by intro j o ho hj;simp only[hz]at hj;cases hj) (fun i _=>hz i) ⟨g,by simp only[hz,hnoneE,hnoneH];exact s.drew,hE.trans Ext.drew⟩
 |.seq x y,K,e,h,hok,hk=>fun g0 w0 g w a s hE=>by
  have hok:codeOK n x=true∧codeOK n y=true:=by simpa[codeOK] using hok
  refine wp_seq (wp_mono (awpO_sound hty hmix ds x _ e h hok.1 hk g0 w0 g w a s hE) ?_);intro ex a' w' hq
  cases ex with
  |normal=>
   obtain⟨a',rfl,g',e',h',hk',s',hE'⟩:=hq;exact awpO_sound hty hmix ds y K e' h' hok.2 hk' g0 w0 g' w' a' s' hE'
  |_=>exact hq
 |.cond c x y,K,e,h,hok,hk=>fun g0 w0 g w a s hE=>by
  have hok:codeOK n x=true∧codeOK n y=true:=by simpa[codeOK] using hok
  have hk:(match Go.AM.ev e c with|.p (.b g)=>ASplit g (awpP ty P KP (fun _ _ _ _=>False) x K e h) (awpP ty P KP (fun _ _ _ _=>False) y K e h)|_=>AStuck "cond"):=hk;split at hk
  ·rename_i b hb
   obtain⟨_,r⟩:=s.ev c;rw[hb]at r;refine wp_cond (by rw[over_eval];exact r.bool) ?_
   cases b with
   |true=>exact awpO_sound hty hmix ds x K e h hok.1 hk g0 w0 g w a s hE
   |false=>exact awpO_sound hty hmix ds y K e h hok.2 hk g0 w0 g w a s hE
  ·exact hk.elim
 |.block id c,K,e,h,hok,hk=>fun g0 w0 g w a s hE=>by
  refine wp_block (wp_mono (awpO_sound hty hmix ds c _ e h (by simpa[codeOK] using hok) hk g0 w0 g w a s hE) ?_);intro ex a' w' hq
  cases ex with
  |exit i=>
   obtain⟨a',rfl,g',e',h',hk',s',hE'⟩:=hq;simp only[Exit.inBlock]
   by_cases q:i=id
   ·subst q
    rw[if_pos rfl];simp only[beq_self]at hk';exact⟨a',rfl,g',e',h',hk',s',hE'⟩
   ·rw[if_neg q]
    simp only[beq_false q]at hk';exact⟨a',rfl,g',e',h',hk',s',hE'⟩
  |_=>exact hq
 |.exit id,K,e,h,_,hk=>fun g0 w0 g w a s hE=>wp_exit (Q:=QOv ds (QOfP n K KP g0 w0)) ⟨a,rfl,g,e,h,hk,s,hE⟩
 |.ret,K,e,h,_,hk=>fun g0 w0 g w a s hE=>wp_ret (Q:=QOv ds (QOfP n K KP g0 w0)) ⟨a,rfl,g,e,h,hk,s,hE⟩
 |.loop c,K,e,h,_,hk=>hk.elim
 |.rangeFunc ..,K,e,h,_,hk=>hk.elim
 |.scope _,K,e,h,_,hk=>hk.elim
 |.label _,K,e,h,_,hk=>hk.elim
 |.goto _,K,e,h,_,hk=>hk.elim
 |.refuse _,K,e,h,_,hk=>hk.elim
end
end Go.AM
end
section
namespace Go.AM
section
variable {P:Program} {ty:Nat→Option TI} {n:Nat}
theorem done_rel (hty:TyOK P ty) {fn:Func} {r:AV} {h':Heap} (hr:(r.within (memB (keysOf h'))&&objsIn (memB (keysOf h')) h')=true) {g g1:Gh} {w w':World} {a':Act} {e1:Env} {h1:Heap} (s1:Sim g1 w' n a' e1 h1) (hE1:Ext g w g1 w')
 (hq:match resOf ty fn.results.toList fn.resultTypes.toList e1 h1 with|some v=>RetOK v r∧heapOK h1 h'|none=>False):∃v,(results fn a'.tmps).run P w'=.ok v w'∧
   (∃v1 g',Ending.returned v=.returned v1∧VRel g' w' (domOf h') (some .ret) v1 r∧HRel g' w' h'∧(∀b ow,g'.own b=some ow→b<w'.heap.size)∧Ext g w g' w'):=by
 simp only[Bool.and_eq_true]at hr;obtain⟨hr1,hr2⟩:=hr;split at hq
 ·rename_i x hx
  obtain⟨hq,hheap⟩:=hq;obtain⟨v,hrun,t,hv⟩:=resOf_rel (P:=P) hty s1 hx
  have hv:VRel g1 w' (domOf h1) (some (.slot t)) v r:=by
   rcases hq with rfl|rfl
   ·exact hv
   ·exact hv.copy
  have hdom:∀l,memB (keysOf h') l=true→domOf h' l:=fun l hl=>by
   obtain⟨ob,hob⟩:=hget_of_key h' l (memB_mem _ _ hl);unfold domOf;rw[hob];rfl
  let g':Gh:={ pre:=g1.pre,own:=fun b=>retOwn h' t (g1.own b),ρ:=g1.ρ,σ:=g1.σ,sown:=g1.sown }
  have conv:∀{ow:Option Owner} {u:Value} {y:AV},(∀q,ow=some q→retOwn h' t (some q)=some q)→VRel g1 w' (domOf h1) ow u y→y.within (memB (keysOf h'))=true→VRel g' w' (domOf h') ow u y:=by
   intro ow u y hq r0 hin;have r1:=r0.within (dom':=domOf h') hdom hin;exact VRel.keep (g:=g1) (g':=g') (w:=w') (w':=w') (fun _ _ _ hv=>hv) (fun l hl=>⟨hl,rfl⟩) (fun l cs E _ hb=>⟨cs,E,hb,rfl⟩) (fun q b e1 ho=>⟨by show retOwn h' t (g1.own b)=some q;rw[ho];exact hq q e1,rfl,rfl⟩) r1
  refine⟨v,hrun,v,g',rfl,?_,⟨fun l ob hl=>?_,fun l ob hl hsl=>?_,fun l ob hl hsl=>?_⟩,fun b q hq=>?_,?_⟩
  ·cases r with
   |so sz xs=>
    cases hv with
    |full _ a _ _ hz hp=>exact .full _ a sz xs hz hp
    |own _ a cap _ _ cs E hz hp ho hpre hb' hs'=>exact .own .ret a cap sz xs cs E hz hp (by show retOwn h' t (g1.own a.block)=_;rw[ho];simp[retOwn]) hpre hb' hs'
   |_=>exact(conv (ow:=none) (fun _ q=>by cases q) (hv.anyOwner (fun _ _ q=>by cases q)) hr1).anyOwner (fun _ _ q=>by cases q)
  ·obtain⟨ob0,q1,q2⟩:=heapOK_get h' hheap l ob hl
   have hin:=objsIn_get h' hr2 l ob hl;have hkl:=hget_key _ _ _ hl
   cases (s1.heap.obj l ob0 q1).le q2 with
   |cells cs vs' E hb' hlen' hxx h1'=>exact .cells cs vs' E hb' hlen' (fun j u c q3 q4=>conv (fun q e1=>by cases e1;simp[retOwn,hkl]) (hxx j u c q3 q4) (withins_get _ cs (by simpa[AObj.within] using hin) j c q4)) h1'
   |arr xs vs' E hb' hlen' hxx h1'=>exact .arr xs vs' E hb' hlen' hxx h1'
   |map kd xs es clock hb' hxx hc=>exact .map kd xs es clock hb' hxx hc
   |gr st sz xs hg=>exact .gr st sz xs hg
   |dead=>exact .dead
   |bld T E2 bs2 hbl=>exact ORel.bldM hbl rfl rfl (fun bb hb2=>⟨by show retOwn h' t (g1.own bb)=_;rw[hb2];simp[retOwn,hkl],rfl,rfl⟩)
   |store T3 o3 sp3 nx3 z3 M3 hst=>exact .store T3 o3 sp3 nx3 z3 M3 (hst.mono (fun _ _ _ q=>q) (fun bb hb2=>⟨by show retOwn h' t (g1.own bb)=_;rw[hb2];simp[retOwn,hkl],rfl,rfl⟩) hst.sown)
   |glob gb gvs hgl=>exact ORel.globM hgl (fun h1 _ _=>⟨rfl,by show retOwn h' t (g1.own gb)=none;rw[h1];rfl⟩)
  ·obtain⟨ob0,q1,q2⟩:=heapOK_get h' hheap l ob hl
   show retOwn h' t (g1.own (g1.ρ l))=_;rw[s1.heap.own l ob0 q1 (q2.solid hsl)];simp[retOwn,hget_key _ _ _ hl]
  ·obtain⟨ob0,q1,q2⟩:=heapOK_get h' hheap l ob hl
   exact s1.heap.pre l ob0 q1 (q2.solid hsl)
  ·have hq:retOwn h' t (g1.own b)=some q:=hq
   cases hg:g1.own b with
   |none=>rw[hg]at hq;simp[retOwn]at hq
   |some q'=>exact s1.bnd b q' hg
  ·exact⟨hE1.size,hE1.os,hE1.out,hE1.imm,fun b hb hn=>⟨(hE1.kept b hb hn).1,(hE1.kept b hb hn).2.1,by show retOwn h' t (g1.own b)=none;rw[(hE1.kept b hb hn).2.2];rfl⟩,hE1.frz,hE1.frz',hE1.ρk,hE1.siz⟩
 ·exact hq.elim
theorem AWp.andThen {c rest:Code} {K:Exit→Env→Heap→Prop} {e:Env} {h:Heap} (hk:AWp P n c K e h) {Q:Exit→Act→World→Prop} {g0 g:Gh} {w0 w:World} {a:Act} (s:Sim g w n a e h) (hE:Ext g0 w0 g w)
 (hn:∀g' w' a' e' h',K .normal e' h'→Sim g' w' n a' e' h'→Ext g0 w0 g' w'→rest.wp P Q a' w') (hx:∀x g' w' a' e' h',x≠.normal→K x e' h'→Sim g' w' n a' e' h'→Ext g0 w0 g' w'→Q x a' w'):(Code.seq c rest).wp P Q a w:=by
 refine wp_seq (wp_mono (hk g0 w0 g w a s hE) ?_);rintro x a' w' ⟨g',e',h',hk',s',hE'⟩
 cases x with
 |normal=>exact hn g' w' a' e' h' hk' s' hE'
 |_=>exact hx _ g' w' a' e' h' (by intro q;cases q) hk' s' hE'
theorem Sim.atv {g:Gh} {w:World} {a:Act} {e:Env} {h:Heap} (s:Sim g w n a e h) {lv ll:List Nat} {vals:List AV} {objs:List AObj} (ha:Atv lv ll vals objs e h):Sim g w n a (lv.zip vals) (ll.zip objs):=by
 have:=s.mask (lv:=lv) (ll:=ll) ha.1 (by rw[ha.2.1];exact ha.2.2.1) ha.2.2.2;rw[ha.2.1]at this;exact this
theorem AWpO.andThen {c rest:Code} {KP:Value→Prop} {ds:List Deferred} {K:Exit→Env→Heap→Prop} {e:Env} {h:Heap} (hk:AWpO P n KP ds c K e h) {Q:Exit→Act→World→Prop} {g0 g:Gh} {w0 w:World} {a:Act} (s:Sim g w n a e h) (hE:Ext g0 w0 g w) (hKP:∀v,¬KP v)
 (hn:∀g' w' a' e' h',K .normal e' h'→Sim g' w' n a' e' h'→Ext g0 w0 g' w'→rest.wp P Q (over a' ds) w') (hx:∀x g' w' a' e' h',x≠.normal→K x e' h'→Sim g' w' n a' e' h'→Ext g0 w0 g' w'→Q x (over a' ds) w'):(Code.seq c rest).wp P Q (over a ds) w:=by
 refine wp_seq (wp_mono (hk g0 w0 g w a s hE) ?_);rintro x a' w' ⟨a',rfl,hq⟩
 cases x with
 |normal=>
  obtain⟨g',e',h',hk',s',hE'⟩:=hq;exact hn g' w' a' e' h' hk' s' hE'
 |panic c=>exact absurd hq.2.choose_spec.2.1 (hKP _)
 |_=>
  obtain⟨g',e',h',hk',s',hE'⟩:=hq;exact hx _ g' w' a' e' h' (by intro q;cases q) hk' s' hE'
theorem AWpO.end {c:Code} {KP:Value→Prop} {ds:List Deferred} {K:Exit→Env→Heap→Prop} {e:Env} {h:Heap} (hk:AWpO P n KP ds c K e h) {Q:Exit→Act→World→Prop} {g0 g:Gh} {w0 w:World} {a:Act} (s:Sim g w n a e h) (hE:Ext g0 w0 g w) (hKP:∀v,¬KP v)
 (hx:∀x g' w' a' e' h',K x e' h'→Sim g' w' n a' e' h'→Ext g0 w0 g' w'→Q x (over a' ds) w'):c.wp P Q (over a ds) w:=by
 refine wp_mono (hk g0 w0 g w a s hE) ?_;rintro x a' w' ⟨a',rfl,hq⟩
 cases x with
 |panic c=>exact absurd hq.2.choose_spec.2.1 (hKP _)
 |_=>
  obtain⟨g',e',h',hk',s',hE'⟩:=hq;exact hx _ g' w' a' e' h' hk' s' hE'
end
end Go.AM
end
section
open Go Go.AM Go.Proofs TK TR
set_option maxRecDepth 100000
namespace PA
def vParse (x:LPg×Int×Int):AV:=.tup [.p (elPg x.1),.p (.i .i64 x.2.1),.p (.i .i64 x.2.2)]
def hE (ev:Value):Heap:=[(1000000000,.glob 1 [ev])]
def endK (ev:Value) (r:AV) (c2:List AV) (c3 c4:AV):Prop:=
 match resOf (tyOf Tryz.prog) Tryz.f13.results.toList Tryz.f13.resultTypes.toList [(2,.ptr 2 0),(3,.ptr 3 0),(4,.ptr 4 0)] [(2,.cells c2),(3,.cells [c3]),(4,.cells [c4]),(1000000000,.glob 1 [ev])] with
  |some v=>RetOK v r∧heapOK [(2,.cells c2),(3,.cells [c3]),(4,.cells [c4]),(1000000000,.glob 1 [ev])] (hE ev)
  |none=>False
theorem end_some (ev:Value) (pg:LPg) (x e:Int):endK ev (vParse (pg,x,e)) (elCells pg) (.p (.i .i64 x)) (.p (.i .i64 e)):=by
 unfold endK;(conv=>whnf);exact⟨.inl rfl,⟨rfl,rfl⟩,trivial⟩
def flatV:AV→Prop
 |.p _=>True
 |.nilS=>True
 |_=>False
theorem flat_rel {g g':Gh} {w w':World} {dom dom':Nat→Prop} {ow ow':Option Owner} {v:Value} {x:AV} (hx:flatV x) (hi:∀b o v,imm g w b o=some v→imm g' w' b o=some v) (hs:∀s k a,g.σ s k=some a→g'.σ s k=some a) (r:VRel g w dom ow v x):VRel g' w' dom' ow' v x:=by
 cases r with
 |p _ _ _ h=>exact .p _ _ _ (h.mono hi hs)
 |nilS=>exact .nilS _
 |_=>exact hx.elim
theorem flat_cells {g g':Gh} {w w':World} {dom dom':Nat→Prop} {l l':Nat} {cs:List AV} (hf:∀c∈cs,flatV c) (hi:∀b o v,imm g w b o=some v→imm g' w' b o=some v) (hs:∀s k a,g.σ s k=some a→g'.σ s k=some a) (hb:w'.heap[g'.ρ l']?=w.heap[g.ρ l]?) (r:ORel g w dom l (.cells cs)):ORel g' w' dom' l' (.cells cs):=by
 cases r with
 |cells _ vs E h1 h2 h3 h4=>exact .cells _ vs E (hb.trans h1) h2 (fun j v c q1 q2=>flat_rel (hf c (List.mem_of_getElem? q2)) hi hs (h3 j v c q1 q2)) h4
def objs3 (ev:Value) (c2:List AV) (c3 c4:AV):List AObj:=[.cells c2,.cells [c3],.cells [c4],.glob 1 [ev]]
def ptrs:List AV:=[.ptr 2 0,.ptr 3 0,.ptr 4 0]
def ptrsB:List AV:=[.ptr 1000000000 0,.ptr 1000000001 0,.ptr 1000000002 0]
theorem flat_elCells (pg:LPg):∀c∈elCells pg,flatV c:=by
 intro c hc;simp only[elCells,List.mem_cons,List.not_mem_nil,or_false]at hc;rcases hc with rfl|rfl|rfl|rfl|rfl|rfl|rfl|rfl<;>trivial
theorem fin3 {ev:Value} {g0 g gX:Gh} {w0 w wX:World} {hX:Heap} {tm:Array Value} {c2:List AV} {c3 c4:AV} {r:AV} (hr:(r.within (memB (keysOf (hE ev)))&&objsIn (memB (keysOf (hE ev))) (hE ev))=true)
 (hH:HRel g0 w0 (hE ev)) (hE0:Ext g0 w0 g w) (hEX:Ext (g.lend [2,3,4,1000000000]) w gX wX) (hHX:HRel gX wX hX) (q2:hget hX 1000000000=some (.cells c2)) (q3:hget hX 1000000001=some (.cells [c3])) (q4:hget hX 1000000002=some (.cells [c4]))
 (f2:∀c∈c2,flatV c) (f3:flatV c3) (f4:flatV c4) (t2:tm.getD 2 undef=.pointer (some ⟨gX.ρ 1000000000,0,none⟩)) (t3:tm.getD 3 undef=.pointer (some ⟨gX.ρ 1000000001,0,none⟩)) (t4:tm.getD 4 undef=.pointer (some ⟨gX.ρ 1000000002,0,none⟩)) (hend:endK ev r c2 c3 c4):
 ∃v,(results Tryz.f13 tm).run Tryz.prog wX=.ok v wX∧(∃v1 g',Ending.returned v=.returned v1∧VRel g' wX (domOf (hE ev)) (some .ret) v1 r∧HRel g' wX (hE ev)∧(∀b ow,g'.own b=some ow→b<wX.heap.size)∧Ext g0 w0 g' wX):=by
 have o2:=hHX.own _ _ q2 rfl;have o3:=hHX.own _ _ q3 rfl;have o4:=hHX.own _ _ q4 rfl;have r2:=hHX.obj _ _ q2;have r3:=hHX.obj _ _ q3;have r4:=hHX.obj _ _ q4;have n23:gX.ρ 1000000000≠gX.ρ 1000000001:=fun q=>by rw[q,o3]at o2;cases o2
 have n24:gX.ρ 1000000000≠gX.ρ 1000000002:=fun q=>by rw[q,o4]at o2;cases o2
 have n34:gX.ρ 1000000001≠gX.ρ 1000000002:=fun q=>by rw[q,o4]at o3;cases o3
 have pr2:=hHX.pre _ _ q2 rfl;have pr3:=hHX.pre _ _ q3 rfl;have pr4:=hHX.pre _ _ q4 rfl
 obtain⟨gl1,Eg,frg,gl2⟩:g0.own 1=none∧∃(E:TypeId) (fr:Nat×Nat),w0.heap[1]?=some (.cells #[ev] E fr):=by
  have:=hH.obj 1000000000 _ rfl
  cases this with
  |glob _ _ h=>exact h
 have hkept:∀b,b<w0.heap.size→g0.own b=none→wX.heap[b]?=w0.heap[b]?∧gX.pre b=g0.pre b:=fun b hb ho=>by
  obtain⟨k1,k2,k3⟩:=hE0.kept b hb ho;obtain⟨k4,k5,_⟩:=hEX.kept b (Nat.lt_of_lt_of_le hb hE0.size) (by show lendOwn _ (g.own b)=none;rw[k3];rfl);exact⟨k4.trans k1,k5.trans k2⟩
 have hk2:=hkept 1 (Array.getElem?_eq_some_iff.1 gl2).1 gl1
 have lt:∀{l:Nat} {cs:List AV},ORel gX wX (domOf hX) l (.cells cs)→gX.ρ l<wX.heap.size:=fun r=>by
  cases r with
  |cells _ vs E h1 _ _ _=>exact(Array.getElem?_eq_some_iff.1 h1).1
 -- the blocks are not there at the start
 have hnew:∀b,b<w0.heap.size→g0.own b=none→b≠gX.ρ 1000000000∧b≠gX.ρ 1000000001∧b≠gX.ρ 1000000002:=fun b hb ho=>by
  obtain⟨k1,k2,k3⟩:=hE0.kept b hb ho;obtain⟨k4,k5,k6⟩:=hEX.kept b (Nat.lt_of_lt_of_le hb hE0.size) (by show lendOwn _ (g.own b)=none;rw[k3];rfl);refine⟨fun q=>?_,fun q=>?_,fun q=>?_⟩
  ·rw[q,o2]at k6;cases k6
  ·rw[q,o3]at k6;cases k6
  ·rw[q,o4]at k6;cases k6
 let gF:Gh:={ pre:=gX.pre,own:=fun b=>if b=gX.ρ 1000000000 then some (.obj 2) else if b=gX.ρ 1000000001 then some (.obj 3) else if b=gX.ρ 1000000002 then some (.obj 4) else none,
              ρ:=fun l=>if l=2 then gX.ρ 1000000000 else if l=3 then gX.ρ 1000000001 else if l=4 then gX.ρ 1000000002 else g0.ρ l,σ:=gX.σ,sown:=g0.sown }
 have e2:gF.ρ 2=gX.ρ 1000000000:=rfl;have e3:gF.ρ 3=gX.ρ 1000000001:=rfl;have e4:gF.ρ 4=gX.ρ 1000000002:=rfl;have hsame:∀b o v,imm gX wX b o=some v→imm gF wX b o=some v:=fun _ _ _ h=>h
 have hF:Ext g0 w0 gF wX:=by
  refine⟨Nat.le_trans hE0.size hEX.size,hEX.os.trans hE0.os,hEX.out.trans hE0.out,fun b o v hv=>hEX.imm b o v (hE0.imm b o v hv),fun b hb ho=>?_,⟨fun s k a q=>hEX.frz.1 s k a (hE0.frz.1 s k a q),rfl,fun s q k=>(hEX.frz.2.2 s (by show lendS _ (g.sown s)=none;rw[hE0.frz.2.1,q];rfl) k).trans (hE0.frz.2.2 s q k)⟩,fun a ha=>?_,fun l hl=>?_,fun b cs E hb=>?_⟩
  ·obtain⟨k1,k2⟩:=hkept b hb ho
   obtain⟨k3,k4,k5⟩:=hnew b hb ho;refine⟨k1,k2,?_⟩;show(if b=gX.ρ 1000000000 then some (Owner.obj 2) else if b=gX.ρ 1000000001 then some (.obj 3) else if b=gX.ρ 1000000002 then some (.obj 4) else none)=none;rw[if_neg k3,if_neg k4,if_neg k5]
  ·rw[hEX.frz' a (Nat.lt_of_lt_of_le ha hE0.size)];exact hE0.frz' a ha
  ·have hl:1000000000≤l:=hl
   show(if l=2 then _ else if l=3 then _ else if l=4 then _ else g0.ρ l)=g0.ρ l;rw[if_neg (by omega),if_neg (by omega),if_neg (by omega)]
  ·obtain⟨cs1,E1,k1,k2⟩:=hE0.siz b cs E hb
   obtain⟨cs2,E2,k3,k4⟩:=hEX.siz b cs1 E1 k1;exact⟨cs2,E2,k3,k4.trans k2⟩
 have f3':∀c∈[c3],flatV c:=fun c hc=>by rw[List.mem_singleton]at hc;subst hc;exact f3
 have f4':∀c∈[c4],flatV c:=fun c hc=>by rw[List.mem_singleton]at hc;subst hc;exact f4
 have hcase:∀l o,hget [(2,.cells c2),(3,.cells [c3]),(4,.cells [c4]),(1000000000,.glob 1 [ev])] l=some o→(l=2∧o=.cells c2)∨(l=3∧o=.cells [c3])∨(l=4∧o=.cells [c4])∨(l=1000000000∧o=.glob 1 [ev]):=by
  intro l o h
  by_cases h2:2=l
  ·subst h2;rw[hget_self]at h;cases h;exact .inl ⟨rfl,rfl⟩
  rw[hget_ne h2]at h
  by_cases h3:3=l
  ·subst h3;rw[hget_self]at h;cases h;exact .inr (.inl ⟨rfl,rfl⟩)
  rw[hget_ne h3]at h
  by_cases h4:4=l
  ·subst h4;rw[hget_self]at h;cases h;exact .inr (.inr (.inl ⟨rfl,rfl⟩))
  rw[hget_ne h4]at h
  by_cases h5:1000000000=l
  ·subst h5;rw[hget_self]at h;cases h;exact .inr (.inr (.inr ⟨rfl,rfl⟩))
  rw[hget_ne h5]at h;cases h
 have sF:Sim gF wX tm.size ⟨tm,[]⟩ [(2,.ptr 2 0),(3,.ptr 3 0),(4,.ptr 4 0)] [(2,.cells c2),(3,.cells [c3]),(4,.cells [c4]),(1000000000,.glob 1 [ev])]:=by
  refine⟨rfl,rfl,fun i=>?_,⟨fun l o h=>?_,fun l o h hs=>?_,fun l o h hs=>?_⟩,fun b o h=>?_⟩
  ·by_cases h2:2=i
   ·subst h2;show VRel _ _ _ _ (tm.getD 2 undef) _;rw[t2,eget_self,←e2];exact .ptr _ _ _ rfl
   by_cases h3:3=i
   ·subst h3;show VRel _ _ _ _ (tm.getD 3 undef) _;rw[t3,←e3];exact .ptr _ _ _ rfl
   by_cases h4:4=i
   ·subst h4;show VRel _ _ _ _ (tm.getD 4 undef) _;rw[t4,←e4];exact .ptr _ _ _ rfl
   rw[eget_ne h2,eget_ne h3,eget_ne h4];exact .top _ _
  ·rcases hcase l o h with⟨rfl,rfl⟩|⟨rfl,rfl⟩|⟨rfl,rfl⟩|⟨rfl,rfl⟩
   ·exact flat_cells f2 hsame (fun _ _ _ q=>q) rfl r2
   ·exact flat_cells f3' hsame (fun _ _ _ q=>q) rfl r3
   ·exact flat_cells f4' hsame (fun _ _ _ q=>q) rfl r4
   ·refine .glob _ _ ⟨?_,Eg,frg,hk2.1.trans gl2⟩
    have:=hnew 1 (Array.getElem?_eq_some_iff.1 gl2).1 gl1;show(if 1=gX.ρ 1000000000 then some (Owner.obj 2) else if 1=gX.ρ 1000000001 then some (.obj 3) else if 1=gX.ρ 1000000002 then some (.obj 4) else none)=none;rw[if_neg this.1,if_neg this.2.1,if_neg this.2.2]
  ·rcases hcase l o h with⟨rfl,rfl⟩|⟨rfl,rfl⟩|⟨rfl,rfl⟩|⟨rfl,rfl⟩
   ·show(if gX.ρ 1000000000=gX.ρ 1000000000 then some (Owner.obj 2) else _)=_
    rw[if_pos rfl]
   ·show(if gX.ρ 1000000001=gX.ρ 1000000000 then some (Owner.obj 2) else if gX.ρ 1000000001=gX.ρ 1000000001 then some (.obj 3) else _)=_
    rw[if_neg (Ne.symm n23),if_pos rfl]
   ·show(if gX.ρ 1000000002=gX.ρ 1000000000 then some (Owner.obj 2) else if gX.ρ 1000000002=gX.ρ 1000000001 then some (.obj 3) else if gX.ρ 1000000002=gX.ρ 1000000002 then some (.obj 4) else _)=_
    rw[if_neg (Ne.symm n24),if_neg (Ne.symm n34),if_pos rfl]
   ·cases hs
  ·rcases hcase l o h with⟨rfl,rfl⟩|⟨rfl,rfl⟩|⟨rfl,rfl⟩|⟨rfl,rfl⟩
   ·exact pr2
   ·exact pr3
   ·exact pr4
   ·cases hs
  ·have h:(if b=gX.ρ 1000000000 then some (Owner.obj 2) else if b=gX.ρ 1000000001 then some (.obj 3) else if b=gX.ρ 1000000002 then some (.obj 4) else none)=some o:=h
   by_cases k2:b=gX.ρ 1000000000
   ·rw[k2];exact lt r2
   by_cases k3:b=gX.ρ 1000000001
   ·rw[k3];exact lt r3
   by_cases k4:b=gX.ρ 1000000002
   ·rw[k4];exact lt r4
   rw[if_neg k2,if_neg k3,if_neg k4]at h;cases h
 exact done_rel (tyOf_ok Tryz.prog) (fn:=Tryz.f13) hr sF hF hend
end PA
end
