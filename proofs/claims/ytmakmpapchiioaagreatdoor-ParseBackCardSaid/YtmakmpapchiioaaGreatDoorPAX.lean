/-
  DERIVED. Contracts of functions that the law reaches, and the law, for every input. No conditions.
-/
import Derived.Test.YtmakmpapchiioaaGreatDoorTK4
import Derived.Test.YtmakmpapchiioaaGreatDoorPAT
import Derived.Test.YtmakmpapchiioaaGreatDoorPAQ
open Go Go.AM TK
set_option maxRecDepth 100000
open Go Go.AM TK TR
set_option maxRecDepth 100000
namespace PA
theorem name_len {w:Bs} (h:nameF w=true):w.length≤16:=by
 unfold nameF at h
 simp only[Bool.and_eq_true,decide_eq_true_eq]at h
 exact h.2.1
theorem word_len {w:Bs} (h:wordF w=true):w.length≤64:=by
 unfold wordF at h
 rw[Bool.and_eq_true]at h
 have hm:w∈wordsL:=by simpa using h.2
 exact(by decide +kernel:∀w∈wordsL,w.length≤64) w hm
theorem lit_len64:∀(n:Nat) (r:Bs) (v:Bs) (i:Nat),r.length≤n→(litGo r v i).2≠0→(litGo r v i).1.length≤64
 |n,[],v,i,_,h=>by rw[litGo]at h;simp at h
 |0,_::_,v,i,h,_=>by simp at h
 |n+1,c::r,v,i,h,h2=>by
  simp only[List.length_cons]at h
  revert h2
  rw[litGo]
  cases bi c==34 with
  |true=>
   rw[cond_true]
   cases hq:decide (v.length>64) with
   |true=>intro h2;simp at h2
   |false=>intro _;have:=of_decide_eq_false hq;simp only[cond_false];omega
  |false=>
   rw[cond_false]
   cases decide (bi c<32) with
   |true=>intro h2;simp at h2
   |false=>
    rw[cond_false]
    cases bi c != 92 with
    |true=>intro h2;rw[cond_true]at h2 ⊢;exact lit_len64 n r _ _ (by omega) h2
    |false=>
     rw[cond_false]
     cases (escF r).2==0 with
     |true=>intro h2;simp at h2
     |false=>
      intro h2
      rw[cond_false]at h2 ⊢
      exact lit_len64 n _ _ _ (by rw[List.length_drop];omega) h2
theorem next_len (L:Bs) (h:(nextF L).2.2≠0) (h4:(nextF L).1≠4):(nextF L).2.1.length≤64:=by
 cases L with
 |nil=>exact absurd rfl h
 |cons c r=>
  revert h h4
  unfold nextF
  simp only
  cases letterF c with
  |true=>
   simp only[cond_true]
   cases hw:wordF ((c::r).take (spanF partF (c::r))) with
   |true=>exact fun _ _=>word_len hw
   |false=>
    simp only[cond_false]
    cases hl:lowF ((c::r).take (spanF partF (c::r))) with
    |true=>
     refine fun _ _=>?_
     unfold lowF at hl
     rw[Bool.and_eq_true]at hl
     exact Nat.le_trans (name_len hl.1) (by decide)
    |false=>
     simp only[cond_false]
     cases hu:upF ((c::r).take (spanF partF (c::r))) with
     |true=>
      refine fun _ _=>?_
      unfold upF at hu
      rw[Bool.and_eq_true]at hu
      exact Nat.le_trans (name_len hu.1) (by decide)
     |false=>exact fun h _=>absurd rfl h
  |false=>
   simp only[cond_false]
   cases digitF c with
   |true=>
    simp only[cond_true]
    intro h h4
    exfalso
    revert h h4
    cases hq:(c::r)[spanF digitF (c::r)]? with
    |none=>exact fun _ h=>h rfl
    |some d=>
     dsimp only
     cases partF d with
     |true=>exact fun h _=>h rfl
     |false=>exact fun _ h=>h rfl
   |false=>
    simp only[cond_false]
    cases bi c==34 with
    |true=>
     simp only[cond_true]
     exact fun h _=>lit_len64 _ _ _ _ (Nat.le_refl _) h
    |false=>
     simp only[cond_false]
     cases decide ((c::r).length≥2)&&signF ((c::r).take 2) with
     |true=>exact fun _ _=>by simp only[cond_true,List.length_take];omega
     |false=>
      simp only[cond_false]
      cases signF ((c::r).take 1) with
      |true=>exact fun _ _=>by simp only[cond_true,List.length_take];omega
      |false=>exact fun h _=>absurd rfl h
theorem tw_of (l:Bs) (T:List Tk) (h:readGo l 0 []=(T,none)):∀a,(lookF T a).kind≠4→(lookF T a).text.length≤64:=by
 have:=readGo_inv (fun t=>t.kind≠4→t.text.length≤64) l.length (fun c r i _ hne h4=>next_len (c::r) hne h4) l.length l 0 [] (Nat.le_refl _) (Nat.le_refl _) (by simp) T h
 intro a ha
 unfold lookF at ha ⊢
 cases hq:T[a]? with
 |none=>simp
 |some t=>rw[hq]at ha;exact this.2 t (List.mem_of_getElem? hq) ha
end PA
open Go Go.AM Go.Proofs TK TR
set_option maxRecDepth 100000
namespace PA
section
variable {T T':List Tk} {k:Nat} {en en':Int} (A:Ag T T' k)
include A
theorem j_program:J T en k 0 wPg (programF T en 0) (programF T' en' 0) 0:=by
 unfold programF
 refine J.bind (Nat.le_refl _) (j_want1 A _ 0 (Nat.zero_le _)) (fun _ b h1 h2 h3=>?_)
 refine J.bind (Nat.le_refl _) (j_kind A 1 (by decide) (by decide) h2) (fun nm c h4 h5 h6=>?_)
 refine J.bind (Nat.le_refl _) (j_num A false h5) (fun v d h7 h8 h9=>?_)
 refine J.bind (Nat.le_refl _) (j_want1 A _ d h8) (fun _ e h10 h11 h12=>?_)
 refine j_declsGo A _ _ _ 0 e h11 (by omega) (fun _=>by omega) ?_
 simp only[wPg,wB,List.map_nil,PV.wts]at *
 omega
end
theorem prog_nil (en:Int):programF [] en 0=.error en:=by
 unfold programF
 rw[wantF]
 cases hb:isF [] wModule 0 with
 |true=>have:=isF_in hb;simp at this
 |false=>rfl
theorem prog_wt {T:List Tk} {en:Int} (hT:T.length≤4000) (tw:∀a,(lookF T a).kind≠4→(lookF T a).text.length≤64) {pg:LPg} {b:Nat} (h:programF T en 0=.ok (pg,b)):wlPg pg≤1048576:=by
 have hne:0<T.length:=by
  cases T with
  |nil=>rw[prog_nil]at h;cases h
  |cons _ _=>simp
 obtain⟨h1,h2,h3,_⟩:=(j_program (en:=en) (en':=en) (T:=T) (T':=T) (k:=0) ⟨hne,hne,fun _ _=>rfl,tw⟩).1 pg b h
 rw[wlPg_eq]
 unfold wPg at h3
 omega
theorem read_ok {l:Bs} {T:List Tk} {p:Nat} (h:readF l=(T,p,0)):l.length≤4000∧readGo l 0 []=(T,none)∧p=0:=by
 unfold readF at h
 cases hlen:decide (l.length>4000) with
 |true=>rw[hlen,cond_true]at h;cases h
 |false=>
  rw[hlen,cond_false]at h
  have hlen:=of_decide_eq_false hlen
  rcases hq:readGo l 0 [] with⟨o,x⟩
  rw[hq]at h
  cases x with
  |none=>simp only[Prod.mk.injEq]at h;exact⟨by omega,by rw[h.1],h.2.1.symm⟩
  |some i=>simp only[Prod.mk.injEq]at h;exact absurd h.2.2 (by decide)
theorem readF_cases (l:Bs):(∃T,readF l=(T,0,0))∨(∃p,readF l=([],p,2))∨∃p,readF l=([],p,10):=by
 unfold readF
 cases decide (l.length>4000) with
 |true=>exact .inr (.inl ⟨_,rfl⟩)
 |false=>
  rw[cond_false]
  rcases readGo l 0 [] with⟨o,x⟩
  cases x with
  |none=>exact .inl ⟨o,rfl⟩
  |some i=>exact .inr (.inr ⟨i,rfl⟩)
theorem parse_spec (ev:Value) (hev:ev=.nilIface∨∃te pe,ev=.iface te pe) (l:Bs):AMem Tryz.prog 8 [.p (.s (B l))] (hE ev) (vParse (parseF l)) (hE ev):=by
 refine read_run ev hev l (fun pg b h=>?_)
 rcases readF_cases l with⟨T,hq⟩|⟨p,hq⟩|⟨p,hq⟩
 ·rw[hq]at h
  obtain⟨h1,h2,_⟩:=read_ok hq
  exact prog_wt (tok_of l h1 T h2).len (tw_of l T h2) h
 ·rw[hq]at h;rw[prog_nil]at h;cases h
 ·rw[hq]at h;rw[prog_nil]at h;cases h
end PA
