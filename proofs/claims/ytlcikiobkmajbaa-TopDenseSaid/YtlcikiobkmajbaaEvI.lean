/-
 Several texts: EvI, EvM.
-/
import Derived.Test.YtlcikiobkmajbaaK
set_option linter.all false
namespace Go.Abs
@[go_sem] theorem imArg_ylog (m : Nat) (k : Option Nat) (xs : List (List AV)) : imArg m (.ylog k xs) = (.yieldT m,[(m,.num (m + 1)),(m + 1,.log k xs)],m + 2):=rfl
@[go_sem] theorem imArgs_ylog (m : Nat) (k : Option Nat) (xs : List (List AV)) (r : List AV) : imArgs m (.ylog k xs :: r) = (.yieldT m :: (imArgs (m + 2) r).1,(m,.num (m + 1)) :: (m + 1,.log k xs) :: (imArgs (m + 2) r).2.1,(m,none) :: (imArgs (m + 2) r).2.2.1,(imArgs (m + 2) r).2.2.2):=rfl
@[go_sem] theorem nmCell_yieldT (k id : Nat) (r : Ren) : nmCell k (.yieldT id) r = nmO k (fun j=>.yieldT j) id r (lk id r.ren):=by
 simp only [nmCell]; cases lk id r.ren <;> rfl
@[go_sem] theorem nmVal_yieldT (t id : Nat) (r : Ren) : nmVal t (.yieldT id) r = nmCell (canon t 0) (.yieldT id) r:=rfl
def nmN (k m : Nat) (r : Ren) : Option Nat → Nat × Ren
 | some k' => (k',r)
 | none => (k,⟨r.ren ++ [(m,k)],r.virt⟩)
theorem nmN_congr {k m : Nat} {r : Ren} {o o' : Option Nat} (h : o = o') : nmN k m r o = nmN k m r o':=by rw [h]
attribute [congr] nmN_congr
@[go_sem ↓,go_sem] theorem nmN_some (k m k' : Nat) (r : Ren) : nmN k m r (some k') = (k',r):=rfl
@[go_sem ↓,go_sem] theorem nmN_none (k m : Nat) (r : Ren) : nmN k m r none = (k,⟨r.ren ++ [(m,k)],r.virt⟩):=rfl
@[go_sem] theorem nmNum_eq (k m : Nat) (r : Ren) : nmNum k m r = nmN k m r (lk m r.ren):=by
 simp only [nmNum]; cases lk m r.ren <;> rfl
@[go_sem] theorem scal_num (m : Nat) : (Row.num m).scalars = true:=id rfl
@[go_sem] theorem scal_log (k : Option Nat) (xs : List (List AV)) : (Row.log k xs).scalars = true:=id rfl
@[go_sem] theorem frz_clip (R : Nat → Option Row) (d sz : Nat) (es : List AV) : frz R (d + 1) (.clip sz es) = some (.list sz es,[]):=rfl
@[go_sem] theorem exRes_func (R : Nat → Option Row) (f : Nat) (cap : List AV) : exRes R (.func f cap) = obind (frz R frzDepth (.func f cap)) fun p=>some ⟨p.1,[],p.2⟩:=by
 simp only [exRes,exItem,exCell]; cases frz R frzDepth (.func f cap) <;> rfl
@[go_sem] theorem exRes_clip (R : Nat → Option Row) (sz : Nat) (es : List AV) : exRes R (.clip sz es) = some ⟨.clip sz es,[],[]⟩:=id rfl
@[go_sem] theorem imRes_clip (n sz : Nat) (es : List AV) : imRes n (.clip sz es) = (.clip sz es,[],n):=id rfl
@[go_sem] theorem fresh_clip (sz : Nat) (es : List AV) : AV.fresh (.clip sz es) = false:=id rfl
def loV (g : AOpd → Option AV) : Option AOpd → Option AV
 | none => some (.int .i64 0)
 | some o => g o
@[go_sem] theorem loV_none (g : AOpd → Option AV) : loV g none = some (.int .i64 0):=id rfl
@[go_sem] theorem loV_some (g : AOpd → Option AV) (o : AOpd) : loV g (some o) = g o:=id rfl
def sl3 (sz : Nat) : AV → AV → AV → AV → Option Eff
 | .list sz' es,.int _ l,.int _ h,.int _ m => if sz' = sz∧0≤l∧l≤h∧h≤es.length∧m = h then some (.pure (.clip sz ((es.drop l.toNat).take (h - l).toNat))) else none
 | _,_,_,_ => none
@[go_sem] theorem sl3_list (sz : Nat) (es : List AV) (k1 k2 k3 : IntKind) (l h m : Int) : sl3 sz (.list sz es) (.int k1 l) (.int k2 h) (.int k3 m) = grd (0≤l∧l≤h∧h≤es.length∧m = h) (some ⟨.clip sz ((es.drop l.toNat).take (h - l).toNat),[],[]⟩):=by
 by_cases hh : 0≤l∧l≤h∧h≤es.length∧m = h
 ·simp only [sl3,grd,hh,and_self,if_true]; rfl
 ·simp only [sl3,grd,hh,and_false,if_false]
@[go_sem] theorem ev_slice3 (call : CallF) (s : Nat) (g : AOpd → Option AV) (R : Nat → Option Row) (sz : Nat) (x : AOpd) (lo : Option AOpd) (hi mx : AOpd) :
  evalOp call s g R (.slice3 sz x lo hi mx) = obind (g x) fun v=>obind (loV g lo) fun l=>obind (g hi) fun h=>obind (g mx) (sl3 sz v l h):=by
 have key : ∀ a b c d : Option AV,(match a,b,c,d with
   | some (.list sz' es),some (.int _ l),some (.int _ h),some (.int _ m) => if sz' = sz∧0≤l∧l≤h∧h≤es.length∧m = h then some (Eff.pure (.clip sz ((es.drop l.toNat).take (h - l).toNat))) else none
   | _,_,_,_ => none) = obind a fun v=>obind b fun l=>obind c fun h=>obind d (sl3 sz v l h):=by
  intro a b c d;cases a with
  | none => rfl
  | some v =>
   cases v;case list sz' es =>
    cases b with
    | none => rfl
    | some l =>
     cases l;case int k1 l =>
      cases c with
      | none => rfl
      | some h =>
       cases h;case int k2 h =>
        cases d with
        | none => rfl
        | some m => cases m <;> rfl
       all_goals cases d <;> rfl
     all_goals cases c <;> cases d <;> rfl
   all_goals cases b <;> cases c <;> cases d <;> rfl
 simp only [evalOp];cases lo with
 | none => exact key _ _ _ _
 | some o => exact key _ _ _ _
def bodyQ (call : CallF) (b : ACode) (Q : AEx → Fr → Prop) : AEx → Fr → Prop
 | .normal,fr => Wp call b fr Q
 | _,_ => False
theorem body_norm {call : CallF} {b : ACode} {Q : AEx → Fr → Prop} {fr : Fr} (h : Wp call b fr Q) : bodyQ call b Q .normal fr:=h
theorem block_norm {id : Nat} {Q : AEx → Fr → Prop} {fr : Fr} (h : Q .normal fr) : blockQ id Q .normal fr:=h
theorem Wp.rangeF {call : CallF} {fr : Fr} {Q : AEx → Fr → Prop} {f : AOpd} {ps keep : List Nat} {a b : ACode} {g : Nat} {cap vs : List AV} {ids : List Nat} {r1 r2 : AV} {k : Option Nat} {V : List (List AV)} (S : Nat → Fr → Prop)
  (hf : getO (fun t=>lk t fr.tm) f = some (.func g cap)) (hz : frzL (frz (fun i=>lk i fr.rows) frzDepth) cap = some (vs,ids))
  (h1 : call g (.ylog none [] :: vs) = some (r1,[.ylog k V])) (h2 : call g (.ylog (some 0) V :: vs) = some (r2,[.ylog (some 0) []]))
  (h0 : Ok (norm keep ⟨fr.tm,updRows (gone ids) fr.rows,fr.lent,fr.next⟩) (S 0))
  (hs : ∀ i x fr,V[i]? = some x → S i fr → ∃ tm,setPs ps x fr.tm = some tm∧Wp call a ⟨tm,fr.rows,fr.lent,fr.next⟩ (bodyQ call b (roundQ keep (S (i + 1)) fun _ _ => False)))
  (hq : ∀ fr,S V.length fr → Q .normal fr) : Wp call (.rangeF f ps a b keep) fr Q:=by
 have key : ∀ (V' : List (List AV)) (i : Nat) (fr : Fr),V.drop i = V' → i≤V.length → S i fr → ∃ n fr',rounds (fun fr=>bothE (evalCode call n a fr) (evalCode call n b)) (norm keep) keep ps i V' fr = some (V.length,.normal,fr')∧S V.length fr':=by
  intro V';induction V' with
  | nil =>
   intro i fr hd hi hS;have hl : V.length - i = 0:=by rw [← List.length_drop,hd]; rfl
   obtain rfl : i = V.length:=by omega
   exact ⟨0,fr,by simp only [rounds],hS⟩
  | cons x V' ih =>
   intro i fr hd hi hS;have hlt : i < V.length:=by
    rcases Nat.lt_or_ge i V.length with h | h
    ·exact h
    ·rw [List.drop_eq_nil_of_le h] at hd; cases hd
   have hx : V[i]? = some x:=by
    have:=List.getElem?_drop (xs:=V) (i:=i) (j:=0);rw [hd] at this;simpa using this.symm
   have hd' : V.drop (i + 1) = V':=by rw [← List.drop_drop,hd]; rfl
   obtain ⟨tm,ht,hw⟩:=hs i x fr hx hS;unfold Wp at hw;obtain ⟨n1,ex1,fr1,e1,q1⟩:=hw;cases ex1 with
   | exit j => exact q1.elim
   | ret => exact q1.elim
   | normal =>
    change Wp call b fr1 _ at q1;unfold Wp at q1;obtain ⟨n2,ex2,fr2,e2,q2⟩:=q1;cases ex2 with
    | exit j => exact q2.elim
    | ret => exact q2.elim
    | normal =>
     obtain ⟨fr3,e3,q3⟩:=Ok.elim q2;obtain ⟨n3,fr4,e4,q4⟩:=ih (i + 1) fr3 hd' (by omega) q3
     refine ⟨max n1 (max n2 n3),fr4,?_,q4⟩;simp only [rounds,ht];rw [show evalCode call (max n1 (max n2 n3)) a ⟨tm,fr.rows,fr.lent,fr.next⟩ = some (.normal,fr1) from evalCode_mono (CallF.le_refl _) (by omega) e1]
     simp only [bothE];rw [show evalCode call (max n1 (max n2 n3)) b fr1 = some (.normal,fr2) from evalCode_mono (CallF.le_refl _) (by omega) e2]
     simp only [e3];exact rounds_mono (fun fr r h => bothE_mono (fun r h => evalCode_mono (CallF.le_refl _) (by omega) h) (fun fr r h => evalCode_mono (CallF.le_refl _) (by omega) h) h) e4
 obtain ⟨fr1,e0,hS0⟩:=Ok.elim h0;obtain ⟨n,fr2,e1,hS2⟩:=key V 0 fr1 (List.drop_zero) (Nat.zero_le _) hS0;unfold Wp;refine ⟨n,.normal,fr2,?_,hq _ hS2⟩;simp only [evalCode,hf,evRange,hz,evRangeF,List.nil_append,h1,e0,e1,endRange,h2]
end Go.Abs
set_option linter.all false
namespace Go.Abs
@[go_sem] theorem cells_yieldT (n : Nat) : (AV.yieldT n).cells = [.yieldT n]:=rfl
@[go_sem] theorem scalar_yieldT (n : Nat) : AV.scalar (.yieldT n) = true:=rfl
theorem round_exit {keep : List Nat} {next : Fr → Prop} {id : Nat} {Q : AEx → Fr → Prop} {fr : Fr} (h : Q .normal fr) : roundQ keep next (blockQ id Q) (.exit id) fr:=by
 simp only [roundQ,blockQ,if_true]; exact h
theorem Wp.rangeFm {call : CallF} {fr : Fr} {Q : AEx → Fr → Prop} {f : AOpd} {ps keep : List Nat} {a b : ACode} {g : Nat} {cap vs : AV} {ids : List Nat} {r1 r2 : AV} {k : Option Nat} {V : List (List AV)} (S : Nat → Fr → Prop)
  (hf : getO (fun t=>lk t fr.tm) f = some (.meth g cap)) (hz : frz (fun i=>lk i fr.rows) frzDepth cap = some (vs,ids))
  (h1 : call g [vs,.ylog none []] = some (r1,[.ylog k V])) (h2 : call g [vs,.ylog (some 0) V] = some (r2,[.ylog (some 0) []]))
  (h0 : Ok (norm keep ⟨fr.tm,updRows (gone ids) fr.rows,fr.lent,fr.next⟩) (S 0))
  (hs : ∀ i x fr,V[i]? = some x → S i fr → ∃ tm,setPs ps x fr.tm = some tm∧Wp call a ⟨tm,fr.rows,fr.lent,fr.next⟩ (bodyQ call b (roundQ keep (S (i + 1)) fun _ _ => False)))
  (hq : ∀ fr,S V.length fr → Q .normal fr) : Wp call (.rangeF f ps a b keep) fr Q:=by
 have key : ∀ (V' : List (List AV)) (i : Nat) (fr : Fr),V.drop i = V' → i≤V.length → S i fr → ∃ n fr',rounds (fun fr=>bothE (evalCode call n a fr) (evalCode call n b)) (norm keep) keep ps i V' fr = some (V.length,.normal,fr')∧S V.length fr':=by
  intro V';induction V' with
  | nil =>
   intro i fr hd hi hS;have hl : V.length - i = 0:=by rw [← List.length_drop,hd]; rfl
   obtain rfl : i = V.length:=by omega
   exact ⟨0,fr,by simp only [rounds],hS⟩
  | cons x V' ih =>
   intro i fr hd hi hS;have hlt : i < V.length:=by
    rcases Nat.lt_or_ge i V.length with h | h
    ·exact h
    ·rw [List.drop_eq_nil_of_le h] at hd; cases hd
   have hx : V[i]? = some x:=by
    have:=List.getElem?_drop (xs:=V) (i:=i) (j:=0);rw [hd] at this;simpa using this.symm
   have hd' : V.drop (i + 1) = V':=by rw [← List.drop_drop,hd]; rfl
   obtain ⟨tm,ht,hw⟩:=hs i x fr hx hS;unfold Wp at hw;obtain ⟨n1,ex1,fr1,e1,q1⟩:=hw;cases ex1 with
   | exit j => exact q1.elim
   | ret => exact q1.elim
   | normal =>
    change Wp call b fr1 _ at q1;unfold Wp at q1;obtain ⟨n2,ex2,fr2,e2,q2⟩:=q1;cases ex2 with
    | exit j => exact q2.elim
    | ret => exact q2.elim
    | normal =>
     obtain ⟨fr3,e3,q3⟩:=Ok.elim q2;obtain ⟨n3,fr4,e4,q4⟩:=ih (i + 1) fr3 hd' (by omega) q3
     refine ⟨max n1 (max n2 n3),fr4,?_,q4⟩;simp only [rounds,ht];rw [show evalCode call (max n1 (max n2 n3)) a ⟨tm,fr.rows,fr.lent,fr.next⟩ = some (.normal,fr1) from evalCode_mono (CallF.le_refl _) (by omega) e1]
     simp only [bothE];rw [show evalCode call (max n1 (max n2 n3)) b fr1 = some (.normal,fr2) from evalCode_mono (CallF.le_refl _) (by omega) e2]
     simp only [e3];exact rounds_mono (fun fr r h => bothE_mono (fun r h => evalCode_mono (CallF.le_refl _) (by omega) h) (fun fr r h => evalCode_mono (CallF.le_refl _) (by omega) h) h) e4
 obtain ⟨fr1,e0,hS0⟩:=Ok.elim h0;obtain ⟨n,fr2,e1,hS2⟩:=key V 0 fr1 (List.drop_zero) (Nat.zero_le _) hS0;unfold Wp;refine ⟨n,.normal,fr2,?_,hq _ hS2⟩;simp only [evalCode,hf,evRange,hz,evRangeF,List.cons_append,List.nil_append,h1,e0,e1,endRange,h2]
end Go.Abs
