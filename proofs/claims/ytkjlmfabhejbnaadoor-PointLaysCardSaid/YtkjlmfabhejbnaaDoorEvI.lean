/-
 Several texts: EvI, EvM, EvT.
-/
import Derived.Test.YtkjlmfabhejbnaaDoorK
set_option linter.all false
namespace Go.Abs
def nmN (k m : Nat) (r : Ren) : Option Nat → Nat × Ren
 | some k' => (k', r)
 | none => (k, ⟨r.ren ++ [(m, k)], r.virt⟩)
theorem nmN_congr {k m : Nat} {r : Ren} {o o' : Option Nat} (h : o = o') : nmN k m r o = nmN k m r o' := by rw [h]
attribute [congr] nmN_congr
def loV (g : AOpd → Option AV) : Option AOpd → Option AV
 | none => some (.int .i64 0)
 | some o => g o
def sl3 (sz : Nat) : AV → AV → AV → AV → Option Eff
 | .list sz' es, .int _ l, .int _ h, .int _ m => if sz' = sz ∧ 0 ≤ l ∧ l ≤ h ∧ h ≤ es.length ∧ m = h then some (.pure (.clip sz ((es.drop l.toNat).take (h - l).toNat))) else none
 | _, _, _, _ => none
def bodyQ (call : CallF) (b : ACode) (Q : AEx → Fr → Prop) : AEx → Fr → Prop
 | .normal, fr => Wp call b fr Q
 | _, _ => False
theorem block_norm {id : Nat} {Q : AEx → Fr → Prop} {fr : Fr} (h : Q .normal fr) : blockQ id Q .normal fr := h
theorem Wp.rangeF {call : CallF} {fr : Fr} {Q : AEx → Fr → Prop} {f : AOpd} {ps keep : List Nat} {a b : ACode} {g : Nat} {cap vs : List AV} {ids : List Nat} {r1 r2 : AV} {k : Option Nat} {V : List (List AV)} (S : Nat → Fr → Prop)
  (hf : getO (fun t => lk t fr.tm) f = some (.func g cap)) (hz : frzL (frz (fun i => lk i fr.rows) frzDepth) cap = some (vs, ids))
  (h1 : call g (.ylog none [] :: vs) = some (r1, [.ylog k V])) (h2 : call g (.ylog (some 0) V :: vs) = some (r2, [.ylog (some 0) []]))
  (h0 : Ok (norm keep ⟨fr.tm, updRows (gone ids) fr.rows, fr.lent, fr.next⟩) (S 0))
  (hs : ∀ i x fr, V[i]? = some x → S i fr → ∃ tm, setPs ps x fr.tm = some tm ∧ Wp call a ⟨tm, fr.rows, fr.lent, fr.next⟩ (bodyQ call b (roundQ keep (S (i + 1)) fun _ _ => False)))
  (hq : ∀ fr, S V.length fr → Q .normal fr) : Wp call (.rangeF f ps a b keep) fr Q := by
 have key : ∀ (V' : List (List AV)) (i : Nat) (fr : Fr), V.drop i = V' → i ≤ V.length → S i fr → ∃ n fr', rounds (fun fr => bothE (evalCode call n a fr) (evalCode call n b)) (norm keep) keep ps i V' fr = some (V.length, .normal, fr') ∧ S V.length fr' := by
  intro V';induction V' with
  | nil =>
   intro i fr hd hi hS;have hl : V.length - i = 0 := by rw [← List.length_drop, hd]; rfl
   obtain rfl : i = V.length := by omega
   exact ⟨0, fr, by simp only [rounds], hS⟩
  | cons x V' ih =>
   intro i fr hd hi hS;have hlt : i < V.length := by
    rcases Nat.lt_or_ge i V.length with h | h
    ·exact h
    ·rw [List.drop_eq_nil_of_le h] at hd; cases hd
   have hx : V[i]? = some x := by
    have := List.getElem?_drop (xs := V) (i := i) (j := 0);rw [hd] at this;simpa using this.symm
   have hd' : V.drop (i + 1) = V' := by rw [← List.drop_drop, hd]; rfl
   obtain ⟨tm, ht, hw⟩ := hs i x fr hx hS;unfold Wp at hw;obtain ⟨n1, ex1, fr1, e1, q1⟩ := hw;cases ex1 with
   | exit j => exact q1.elim
   | ret => exact q1.elim
   | normal =>
    change Wp call b fr1 _ at q1;unfold Wp at q1;obtain ⟨n2, ex2, fr2, e2, q2⟩ := q1;cases ex2 with
    | exit j => exact q2.elim
    | ret => exact q2.elim
    | normal =>
     obtain ⟨fr3, e3, q3⟩ := Ok.elim q2;obtain ⟨n3, fr4, e4, q4⟩ := ih (i + 1) fr3 hd' (by omega) q3
     refine ⟨max n1 (max n2 n3), fr4, ?_, q4⟩;simp only [rounds, ht];rw [show evalCode call (max n1 (max n2 n3)) a ⟨tm, fr.rows, fr.lent, fr.next⟩ = some (.normal, fr1) from evalCode_mono (CallF.le_refl _) (by omega) e1]
     simp only [bothE];rw [show evalCode call (max n1 (max n2 n3)) b fr1 = some (.normal, fr2) from evalCode_mono (CallF.le_refl _) (by omega) e2]
     simp only [e3];exact rounds_mono (fun fr r h => bothE_mono (fun r h => evalCode_mono (CallF.le_refl _) (by omega) h) (fun fr r h => evalCode_mono (CallF.le_refl _) (by omega) h) h) e4
 obtain ⟨fr1, e0, hS0⟩ := Ok.elim h0;obtain ⟨n, fr2, e1, hS2⟩ := key V 0 fr1 (List.drop_zero) (Nat.zero_le _) hS0;unfold Wp;refine ⟨n, .normal, fr2, ?_, hq _ hS2⟩;simp only [evalCode, hf, evRange, hz, evRangeF, List.nil_append, h1, e0, e1, endRange, h2]
end Go.Abs
set_option linter.all false
namespace Go.Abs
end Go.Abs
set_option linter.all false
namespace Go.Abs
section
variable {R : Nat → Option Row}
def frzTb (id len : Nat) : Row → Option (AV × List Nat)
 | .tab sz es => grd (len = es.length) (some (.list sz (es.map AV.tabFe), [id]))
 | _ => none
def frzIc (id len : Nat) : AV → Option (AV × List Nat)
 | .own sz xs => grd (len ≤ xs.length) (some (.list sz (xs.take len), [id]))
 | _ => none
def frzIn (id p len : Nat) : Row → Option (AV × List Nat)
 | .tab _ es => obind (es.flatMap AV.cells)[p]? (frzIc id len)
 | _ => none
attribute [go_sem] frzTb.eq_1 frzIn.eq_1 frzIc.eq_1
@[go_sem] theorem frz_tabS (d id len : Nat) : frz R (d + 1) (.tabS id len) = obind (R id) (frzTb id len) := by
 simp only [frz]; cases R id with
 | none => rfl
 | some r => cases r <;> rfl
def exTb (id len : Nat) : Row → Option Ex
 | .tab sz es => grd (len = es.length) (some ⟨.ownT sz es, [id], []⟩)
 | _ => none
attribute [go_sem] exTb.eq_1
@[go_sem] theorem exCell_tabS (id len : Nat) : exCell R (.tabS id len) = obind (R id) (exTb id len) := by
 simp only [exCell]; cases R id with
 | none => rfl
 | some r => cases r <;> rfl
@[go_sem] theorem exRes_tabS (id len : Nat) : exRes R (.tabS id len) = obind (R id) (exTb id len) := exCell_tabS id len
def elI (sz id len : Nat) : AV → Option (List AV × List Nat)
 | .own sz' xs => grd (sz' = sz ∧ len ≤ xs.length) (some (xs.take len, [id]))
 | _ => none
def elT (sz id p len : Nat) : Row → Option (List AV × List Nat)
 | .tab _ es => obind (es.flatMap AV.cells)[p]? (elI sz id len)
 | _ => none
attribute [go_sem] elI.eq_1 elT.eq_1
@[go_sem] theorem tabCells_nil (id p : Nat) : tabCells id p [] = [] := rfl
@[go_sem] theorem tabCells_own (id p q : Nat) (xs cs : List AV) : tabCells id p (.own q xs :: cs) = .inS id p xs.length :: tabCells id (p + 1) cs := rfl
def tinR (id len : Nat) : Row → Option (AV × List Nat)
 | .arr 1 es => grd (len = es.length) (grdB (es.all AV.plain1) (some (.own 1 es, [id])))
 | _ => none
@[go_sem] theorem tinR_one (id len : Nat) (es : List AV) : tinR id len (.arr 1 es) = grd (len = es.length) (grdB (es.all AV.plain1) (some (.own 1 es, [id]))) := rfl
@[go_sem] theorem tabIn_slice (id len : Nat) : tabIn R (.slice id 0 len) = obind (R id) (tinR id len) := by
 simp only [tabIn]; cases R id with
 | none => rfl
 | some r =>
  cases r <;> try rfl
  rename_i sz es
  match sz with
  | 1 => simp only [obind, tinR, grd, grdB]; by_cases h1 : len = es.length <;> cases h2 : es.all AV.plain1 <;> simp [h1]
  | 0 => rfl
  | _ + 2 => rfl
@[go_sem] theorem tabEl_slice (id off len : Nat) : tabEl R (.slice id off len) = tabIn R (.slice id off len) := rfl
variable {call : CallF} {s : Nat} {g : AOpd → Option AV}
@[go_sem] theorem ev_mkTab (sz : Nat) (ps : List AOpd) : evalOp call s g R (.mkTab sz ps) = obind (mapO g ps) fun vs => obind (frzL (tabEl R) vs) fun q => grdB ((q.1.all fun e => e.cells.length == sz) && nodup q.2) (some ⟨.tabS s q.1.length, (s, some (.tab sz q.1)) :: gone q.2, q.2⟩) := by
 simp only [evalOp, evMkTab]; cases mapO g ps with
 | none => rfl
 | some vs =>
  simp only [obind];cases frzL (tabEl R) vs with
  | none => rfl
  | some q => simp only [grdB]
def atR2 (s sz i n j m : Nat) (es : List AV) : Row → Option Eff
 | .tab sz2 xs => grd (sz2 = sz) (grd (n = es.length) (grd (m = xs.length) (grd (i ≠ j) (grd (n + m ≤ 34359738368) (some ⟨.tabS s (n + m), [(s, some (.tab sz (es ++ xs))), (i, none), (j, none)], [i, j]⟩)))))
 | _ => none
def atR1 (s sz i n j m : Nat) (o : Option Row) : Row → Option Eff
 | .tab sz1 es => grd (sz1 = sz) (obind o (atR2 s sz i n j m es))
 | _ => none
def atV (s : Nat) (R : Nat → Option Row) (sz : Nat) : AV → AV → Option Eff
 | .tabS i n, .tabS j m => obind (R i) (atR1 s sz i n j m (R j))
 | _, _ => none
attribute [go_sem] atR2.eq_1 atR1.eq_1 atV.eq_1
@[go_sem] theorem ev_appTab (sz : Nat) (d x : AOpd) : evalOp call s g R (.appTab sz d x) = obind (g d) fun a => obind (g x) fun b => atV s R sz a b := by
 simp only [evalOp, evAppTab]; cases g d with
 | none => rfl
 | some a =>
  cases g x with
  | none => cases a <;> rfl
  | some b =>
   cases a <;> cases b <;> try rfl
   rename_i i n j m;simp only [obind, atV];cases R i with
   | none => rfl
   | some r =>
    cases hj : R j with
    | none =>
     cases r <;> try rfl
     simp only [atR1, obind, grd]; split <;> rfl
    | some q =>
     cases r <;> cases q <;> try rfl
     all_goals simp only [atR1, atR2, obind, grd]
     all_goals (try (split <;> rfl))
     rename_i sz1 es sz2 xs;by_cases h1 : sz1 = sz <;> by_cases h2 : sz2 = sz <;> by_cases h3 : n = es.length <;> by_cases h4 : m = xs.length <;> by_cases h5 : i ≠ j <;> by_cases h6 : n + m ≤ 34359738368 <;> simp_all [roomMax]
end
@[go_sem] theorem fresh_ownT (sz : Nat) (es : List AV) : AV.fresh (.ownT sz es) = true := rfl
@[go_sem] theorem imCell_ownT (m sz : Nat) (es : List AV) : imCell m (.ownT sz es) = (.tabS m es.length, [(m, .tab sz es)], m + 1) := rfl
@[go_sem] theorem imItem_ownT (m sz : Nat) (es : List AV) : imItem m (.ownT sz es) = imCell m (.ownT sz es) := rfl
@[go_sem] theorem imRes_ownT (m sz : Nat) (es : List AV) : imRes m (.ownT sz es) = imItem m (.ownT sz es) := rfl
@[go_sem] theorem scal_tab (sz : Nat) (es : List AV) : (Row.tab sz es).scalars = true := id rfl
@[go_sem ↓, go_sem] theorem nmRow_tab (rows : List (Nat × Row)) (k : Nat) (l : List (Nat × Nat)) (r : Ren) (sz : Nat) (es : List AV) : nmRow rows k l r (some (.tab sz es)) = ((k, .tab sz es) :: (nmRows rows l r).1, (nmRows rows l r).2) := rfl
@[go_sem] theorem nmCell_tabS (k a b : Nat) (r : Ren) : nmCell k (.tabS a b) r = nmO k (fun j => .tabS j b) a r (lk a r.ren) := by
 simp only [nmCell]; cases lk a r.ren <;> rfl
@[go_sem] theorem nmVal_tabS (t a b : Nat) (r : Ren) : nmVal t (.tabS a b) r = nmCell (canon t 0) (.tabS a b) r := rfl
@[go_sem] theorem lendF_tabS (R : Nat → Option Row) (a b : Nat) : lendF R (.tabS a b) = obind (frz R frzDepth (.tabS a b)) fun p => some ⟨[p.1], [], p.2, []⟩ := rfl
end Go.Abs
