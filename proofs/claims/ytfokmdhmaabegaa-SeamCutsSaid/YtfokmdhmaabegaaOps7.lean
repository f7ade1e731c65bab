/-
  Steps of operations, seventh part: maps; equality.
-/
import Derived.Test.YtfokmdhmaabegaaOps6
set_option linter.all false
namespace Go.Abs

section
variable {P : Program} {Own : Nat → Prop} {σ : Ids} {S : Nat → Prop} {w : World} {R : Nat → Option Row} {s : Nat} {T : Nat → Option AV} {a : Act} {o : Oper} {e : Eff}

theorem mkMap_sound {t : TypeId} {k : IntKind} (hR : RowsOk Own σ S w R) (hF : Free Own σ w s) (ho : o.op = .makeMap t none) (call : CallF)
    (h : evalOp call s (getO T) R (.mkMap k) = some e) : ∃ v w', OpRuns P a o w v w' ∧ Step Own σ S w R s e v w' := by
  simp only [evalOp, Option.some.injEq] at h; subst h
  refine ⟨.map (some w.heap.size), w.alloc (.map #[] 0), .inl (by simp [execOp, ho, Instr.makeMap]), ?_⟩
  obtain ⟨q1, q2⟩ := hR.alloc (w' := w.alloc (.map #[] 0)) (l := .map w.heap.size) (row := .mp k []) hF.head hF.own (fun b hb => by cases hb; rfl)
    (fun b hb => heap_alloc_old w _ b hb) (Same.alloc w _) ⟨w.heap.size, #[], 0, Ids.set_self .., heap_alloc_new w _, by simp, by simp⟩
  exact ⟨_, S, .mapp s _ (Ids.set_self ..), q1, q2, set_outside⟩

def EntryOk (S : Nat → Prop) (w : World) (k : IntKind) (e : MapEntry) (x : Int × AV) : Prop := e.key = .int k x.1 ∧ RelI S w e.val x.2 ∧ x.2.plain1 = true

theorem findNow_spec {k kd : IntKind} {n : Int} : ∀ (es : List MapEntry) (kv : List (Int × AV)) (j : Nat), es.length = kv.length → (∀ (i : Nat) x, kv[i]? = some x → ∃ e, es[i]? = some e ∧ EntryOk S w k e x) →
    (kvGet n kv = none → Instr.findNow (.int kd) (.int k n) es j = some none ∧ ∀ y, kvSet n y kv = kv ++ [(n, y)]) ∧
    (∀ v, kvGet n kv = some v → ∃ i e, kv[i]? = some (n, v) ∧ es[i]? = some e ∧ Instr.findNow (.int kd) (.int k n) es j = some (some (j + i, e.val)) ∧ ∀ y, kvSet n y kv = kv.set i (n, y))
  | [], [], j, _, _ => by simp [kvGet, Instr.findNow, kvSet]
  | [], _ :: _, _, hl, _ => by simp at hl
  | _ :: _, [], _, hl, _ => by simp at hl
  | m :: es, (j', v') :: kv, j, hl, hr => by
    obtain ⟨m', hm, hk, hrel, hpl⟩ := hr 0 _ rfl
    simp at hm; subst hm
    have ih := findNow_spec (k := k) (kd := kd) (n := n) es kv (j + 1) (by simpa using hl) (fun i x hx => hr (i + 1) x (by simpa using hx))
    have hsame : Instr.sameNow (.int kd) (.int k n) m.key = some (n == j') := by rw [hk]; simp [Instr.sameNow]
    by_cases hj : j' = n
    · subst hj
      refine ⟨fun h => by simp [kvGet] at h, fun v hv => ?_⟩
      simp [kvGet] at hv; subst hv
      exact ⟨0, m, rfl, rfl, by simp [Instr.findNow, hsame], fun y => by simp [kvSet]⟩
    · have hne : (n == j') = false := by simpa using Ne.symm hj
      rw [hne] at hsame
      refine ⟨fun h => ?_, fun v hv => ?_⟩
      · simp only [kvGet, hj, if_false] at h
        obtain ⟨h1, h2⟩ := ih.1 h
        exact ⟨by simp only [Instr.findNow, hsame]; exact h1, fun y => by simp only [kvSet, hj, if_false, h2 y, List.cons_append]⟩
      · simp only [kvGet, hj, if_false] at hv
        obtain ⟨i, e, h1, h2, h3, h4⟩ := ih.2 v hv
        exact ⟨i + 1, e, by simpa using h1, by simpa using h2, by simp only [Instr.findNow, hsame, h3]; congr 3; omega, fun y => by simp only [kvSet, hj, if_false, h4 y, List.set_cons_succ]⟩

theorem run_checkKey_int {kt : TypeId} {k k' : IntKind} {n : Int} {em : Bool} (ht : P.underlying kt = some (.int k)) : (Instr.checkKey em 10000 kt (.int k' n)).run P w = .ok () w := by
  show (Instr.checkKey em (9999 + 1) kt (.int k' n)).run P w = .ok () w
  unfold Instr.checkKey
  rw [Sem.run_bind, run_underlying ht, Result.andThen_ok]
  rfl

theorem run_getObj_map' {r : Nat} {es : Array MapEntry} {clock : Nat} (h : w.heap[r]? = some (.map es clock)) : (getObj r).run P w = .ok (.map es clock) w := by
  simp [getObj, Sem.run, h]

theorem run_setObj_map' {r : Nat} {es : Array MapEntry} {clock : Nat} {o' : Obj} (h : w.heap[r]? = some (.map es clock)) : (setObj r o').run P w = .ok () { w with heap := w.heap.setIfInBounds r o' } := by
  simp [setObj, Sem.run, h]

theorem plain1_one {x : AV} (h : x.plain1 = true) {v : Value} (hr : RelV σ S w v x) : RelI S w v x := by
  cases x <;> simp [AV.plain1] at h
  · rw [hr.int_inv]; exact .int _ _
  · rw [hr.bool_inv]; exact .bool _

theorem mapSet_sound {t kt et : TypeId} {kk : IntKind} {m k x : Operand} {am ak ax : AOpd} {t1 t2 t3 : Option TypeId} (hT : TmpsOk σ S w T a) (hR : RowsOk Own σ S w R)
    (ho : o.op = .mapUpdate t m k x ∨ o.op = .insert t m k x) (ht : P.underlying t = some (.map kt et)) (hkt : P.underlying kt = some (.int kk))
    (hm : opd P t1 m = some am) (hk : opd P t2 k = some ak) (hx : opd P t3 x = some ax) (h : evMapSet (getO T) R kk am ak ax = some e) : ∃ v w', OpRuns P a o w v w' ∧ Step Own σ S w R s e v w' := by
  unfold evMapSet at h
  split at h
  · rename_i id kk' n v hgm hgk hgx
    split at h
    · rename_i hc
      obtain ⟨hpl, rfl⟩ := hc
      split at h
      · rename_i k0 kv hr
        split at h
        · rename_i hk0
          subst hk0
          simp only [Option.some.injEq] at h; subst h
          have hvm := opd_sound hT hm hgm
          have hvx := plain1_one hpl (opd_sound hT hx hgx)
          have hek := (opd_sound hT hk hgk).int_inv
          generalize hem : a.eval m = vm at hvm
          cases hvm with
          | imm hv => cases hv
          | mapp id r hσ =>
            obtain ⟨r', es, clock, hloc, hh, hsz, hes⟩ := hR.ok id _ hr
            have q := hloc.symm.trans hσ
            simp only [Option.some.injEq, Loc.map.injEq] at q
            subst q
            have hund : ∀ {σ' : Ids} {S' : Nat → Prop} {w' : World}, RelV σ' S' w' undef (.tuple []) := .tuple #[] [] rfl (by simp)
            have hrlt : r' < w.heap.size := (Array.getElem?_eq_some_iff.1 hh).1
            have hfin : ∀ (es' : Array MapEntry) (clock' : Nat), (Instr.mapUpdate t (.map (some r')) (.int k0 n) (a.eval x)).run P w = .ok () { w with heap := w.heap.setIfInBounds r' (.map es' clock') } →
                es'.size = (kvSet n v kv).length → (∀ (i : Nat) y, (kvSet n v kv)[i]? = some y → ∃ e, es'[i]? = some e ∧ EntryOk S w k0 e y) →
                ∃ v' w', OpRuns P a o w v' w' ∧ Step Own σ S w R s ⟨.tuple [], [(id, some (.mp k0 (kvSet n v kv)))], [id]⟩ v' w' := by
              intro es' clock' hrun hl hent
              refine ⟨undef, { w with heap := w.heap.setIfInBounds r' (.map es' clock') }, .inr ⟨by rcases ho with ho | ho <;> simp only [execOp, ho, hem, hek, Sem.run_bind, hrun, Result.andThen_ok, Sem.run_pure], rfl⟩, ?_⟩
              obtain ⟨q1, q2⟩ := hR.turn (w' := { w with heap := w.heap.setIfInBounds r' (.map es' clock') }) (row := .mp k0 (kvSet n v kv)) hr ⟨_, hloc, rfl⟩
                (fun b hb => Array.getElem?_setIfInBounds_ne (Ne.symm hb)) ⟨rfl, rfl, rfl, by simp⟩ (fun hkeep =>
                  ⟨r', es', clock', hloc, by simp [hrlt], hl, fun i y hy => by
                    obtain ⟨e, h1, h2, h3, h4⟩ := hent i y hy
                    exact ⟨e, h1, h2, h3.mono (fun _ h => h) hkeep, h4⟩⟩)
              exact ⟨σ, S, hund, q1, q2, fun _ _ => rfl⟩
            have hspec := findNow_spec (S := S) (w := w) (k := k0) (kd := k0) (n := n) es.toList kv 0 (by simpa using hsz) (fun i x hx => by
              obtain ⟨e, h1, h2, h3, h4⟩ := hes i x hx
              exact ⟨e, by rw [Array.getElem?_toList]; exact h1, h2, h3, h4⟩)
            cases hget : kvGet n kv with
            | none =>
              obtain ⟨h1, h2⟩ := hspec.1 hget
              refine hfin (es.push { key := .int k0 n, val := a.eval x, born := clock }) (clock + 1) ?_ (by rw [h2]; simp [hsz]) (fun i y hy => ?_)
              · unfold Instr.mapUpdate
                simp only [Sem.run_bind, run_underlying ht, Result.andThen_ok, run_getObj_map' hh, run_checkKey_int hkt, Instr.findKey, run_underlying hkt, h1, Sem.run_pure, run_setObj_map' hh]
              · rw [h2] at hy
                by_cases hi : i < kv.length
                · rw [List.getElem?_append_left hi] at hy
                  obtain ⟨e, h1, h2, h3, h4⟩ := hes i y hy
                  refine ⟨e, ?_, h2, h3, h4⟩
                  rw [Array.getElem?_push_lt (by omega), ← Array.getElem?_eq_getElem]; exact h1
                · rw [List.getElem?_append_right (by omega)] at hy
                  have hi' : i = kv.length := by
                    have := (List.getElem?_eq_some_iff.1 hy).1
                    simp at this; omega
                  subst hi'
                  simp at hy; subst hy
                  exact ⟨{ key := .int k0 n, val := a.eval x, born := clock }, by rw [← hsz]; simp, rfl, hvx, hpl⟩
            | some v0 =>
              obtain ⟨i, e0, h1, h2, h3, h4⟩ := hspec.2 v0 hget
              simp only [Nat.zero_add] at h3
              rw [Array.getElem?_toList] at h2
              obtain ⟨e1, g1, g2, g3, g4⟩ := hes i _ h1
              rw [h2] at g1; cases g1
              refine hfin (es.modify i fun e => { e with key := .int k0 n, val := a.eval x }) clock ?_ (by rw [h4]; simp [hsz]) (fun j y hy => ?_)
              · unfold Instr.mapUpdate
                have hstay : (Instr.keyThatStays e0.key (.int k0 n)).run P w = .ok (.int k0 n) w := by
                  have hsb : Instr.sameBits 10000 e0.key (.int k0 n) = true := by rw [g2]; simp [Instr.sameBits]
                  unfold Instr.keyThatStays
                  rw [hsb]
                  simp
                simp only [Sem.run_bind, run_underlying ht, Result.andThen_ok, run_getObj_map' hh, run_checkKey_int hkt, Instr.findKey, run_underlying hkt, h3, Sem.run_pure, h2, Option.map_some, Option.getD_some, hstay, run_setObj_map' hh]
              · rw [h4] at hy
                by_cases hij : i = j
                · subst hij
                  have hilt : i < kv.length := (List.getElem?_eq_some_iff.1 h1).1
                  rw [List.getElem?_set_self hilt] at hy
                  simp at hy; subst hy
                  refine ⟨{ e0 with key := .int k0 n, val := a.eval x }, by simp [Array.getElem?_modify, h2], rfl, hvx, hpl⟩
                · rw [List.getElem?_set_ne hij] at hy
                  obtain ⟨e, q1, q2, q3, q4⟩ := hes j y hy
                  exact ⟨e, by simp [Array.getElem?_modify, hij, q1], q2, q3, q4⟩
        · cases h
      · cases h
    · cases h
  · cases h

theorem mapGet_sound {t kt et : TypeId} {kk : IntKind} {z : AV} {ok : Bool} {m k : Operand} {am ak : AOpd} {t1 t2 : Option TypeId} (hT : TmpsOk σ S w T a) (hR : RowsOk Own σ S w R)
    (ho : o.op = .lookup t m k ok) (ht : P.underlying t = some (.map kt et)) (hkt : P.underlying kt = some (.int kk)) (hz : zeroOf P et = some z)
    (hm : opd P t1 m = some am) (hk : opd P t2 k = some ak) (h : evMapGet (getO T) R kk z ok am ak = some e) : ∃ v w', OpRuns P a o w v w' ∧ Step Own σ S w R s e v w' := by
  unfold zeroOf at hz
  split at hz
  · rename_i i hi
    split at hz
    · rename_i zv hzv
      split at hz
      · unfold evMapGet at h
        split at h
        · rename_i id kk' n hgm hgk
          split at h
          · rename_i hkk
            subst hkk
            split at h
            · rename_i k0 kv hr
              split at h
              · rename_i hk0
                subst hk0
                have hvm := opd_sound hT hm hgm
                have hek := (opd_sound hT hk hgk).int_inv
                generalize hem : a.eval m = vm at hvm
                cases hvm with
                | imm hv => cases hv
                | mapp id r hσ =>
                  obtain ⟨r', es, clock, hloc, hh, hsz, hes⟩ := hR.ok id _ hr
                  have q := hloc.symm.trans hσ
                  simp only [Option.some.injEq, Loc.map.injEq] at q
                  subst q
                  have hspec := findNow_spec (S := S) (w := w) (k := k0) (kd := k0) (n := n) es.toList kv 0 (by simpa using hsz) (fun i x hx => by
                    obtain ⟨e, h1, h2, h3, h4⟩ := hes i x hx
                    exact ⟨e, by rw [Array.getElem?_toList]; exact h1, h2, h3, h4⟩)
                  have two : ∀ {v : Value} {x : AV} {b : Bool}, RelV σ S w v x → RelV σ S w (if ok then .tuple #[v, .bool b] else v) (if ok then .tuple [x, .bool b] else x) := by
                    intro v x b hv
                    cases ok with
                    | true =>
                      refine .tuple _ _ rfl fun i u c hu hc => ?_
                      match i with
                      | 0 => simp at hu hc; subst hu hc; exact hv
                      | 1 => simp at hu hc; subst hu hc; exact .imm (.bool b)
                      | i + 2 => simp at hu
                    | false => exact hv
                  split at h
                  · rename_i v hget
                    simp only [Option.some.injEq] at h; subst h
                    obtain ⟨i, e0, h1, h2, h3, h4⟩ := hspec.2 v hget
                    rw [Array.getElem?_toList] at h2
                    obtain ⟨e1, g1, g2, g3, g4⟩ := hes i _ h1
                    rw [h2] at g1; cases g1
                    refine fin_pure hR (sem := Instr.lookup t (a.eval m) (a.eval k) ok) (by simp [execOp, ho]) (u := if ok then .tuple #[e0.val, .bool true] else e0.val) ?_ (two (.imm g3))
                    rw [hem, hek]
                    unfold Instr.lookup
                    simp only [Sem.run_bind, run_underlying ht, Result.andThen_ok, run_getObj_map' hh, run_checkKey_int hkt, Instr.findKey, run_underlying hkt, h3, Sem.run_pure]
                  · rename_i hget
                    simp only [Option.some.injEq] at h; subst h
                    obtain ⟨h1, h2⟩ := hspec.1 hget
                    refine fin_pure hR (sem := Instr.lookup t (a.eval m) (a.eval k) ok) (by simp [execOp, ho]) (u := if ok then .tuple #[zv, .bool false] else zv) ?_ (two (.imm (ofVal_rel hz)))
                    rw [hem, hek]
                    unfold Instr.lookup
                    simp only [Sem.run_bind, run_underlying ht, Result.andThen_ok, run_getObj_map' hh, run_checkKey_int hkt, Instr.findKey, run_underlying hkt, h1, Sem.run_pure, zeroValue, typeInfo, run_program, hi, hzv]
              · cases h
            · cases h
          · cases h
        · cases h
      · cases hz
    · cases hz
  · cases hz

/-! ## Equality -/

theorem eqCells_int {ks : List Bool} {xs ys : List AV} {q : Bool} (h : eqCells (true :: ks) xs ys = some q) :
    ∃ k a b r r' q', xs = .int k a :: r ∧ ys = .int k b :: r' ∧ eqCells ks r r' = some q' ∧ q = (a == b && q') := by
  unfold eqCells at h
  split at h
  · rename_i heq; cases heq
  · rename_i heq
    simp at heq; subst heq
    split at h
    · cases h
    · rename_i hk
      have hk' := Decidable.of_not_not hk
      subst hk'
      split at h
      · rename_i q' hq
        simp at h; subst h
        exact ⟨_, _, _, _, _, q', rfl, rfl, hq, rfl⟩
      · cases h
  · rename_i heq; simp at heq
  · cases h

theorem eqCells_bool {ks : List Bool} {xs ys : List AV} {q : Bool} (h : eqCells (false :: ks) xs ys = some q) :
    ∃ a b r r' q', xs = .bool a :: r ∧ ys = .bool b :: r' ∧ eqCells ks r r' = some q' ∧ q = (a == b && q') := by
  unfold eqCells at h
  split at h
  · rename_i heq; cases heq
  · rename_i heq; simp at heq
  · rename_i heq
    simp at heq; subst heq
    split at h
    · rename_i q' hq
      simp at h; subst h
      exact ⟨_, _, _, _, q', rfl, rfl, hq, rfl⟩
    · cases h
  · cases h

theorem eqCells_nil {xs ys : List AV} {q : Bool} (h : eqCells [] xs ys = some q) : xs = [] ∧ ys = [] ∧ q = true := by
  unfold eqCells at h
  split at h
  · simp at h; exact ⟨rfl, rfl, h⟩
  · rename_i heq; cases heq
  · rename_i heq; cases heq
  · cases h

theorem eqCells_len : ∀ {ks : List Bool} {xs ys : List AV} {q : Bool}, eqCells ks xs ys = some q → xs.length = ks.length ∧ ys.length = ks.length
  | [], xs, ys, q, h => by obtain ⟨rfl, rfl, _⟩ := eqCells_nil h; simp
  | true :: ks, xs, ys, q, h => by
    obtain ⟨k, a, b, r, r', q', rfl, rfl, h1, _⟩ := eqCells_int h
    have := eqCells_len h1
    simp [this.1, this.2]
  | false :: ks, xs, ys, q, h => by
    obtain ⟨a, b, r, r', q', rfl, rfl, h1, _⟩ := eqCells_bool h
    have := eqCells_len h1
    simp [this.1, this.2]

theorem eqCells_append : ∀ {s1 s2 : List Bool} {xs ys : List AV} {q : Bool}, eqCells (s1 ++ s2) xs ys = some q →
    ∃ q1 q2, eqCells s1 (xs.take s1.length) (ys.take s1.length) = some q1 ∧ eqCells s2 (xs.drop s1.length) (ys.drop s1.length) = some q2 ∧ q = (q1 && q2)
  | [], s2, xs, ys, q, h => ⟨true, q, by simp [eqCells], by simpa using h, by simp⟩
  | true :: s1, s2, xs, ys, q, h => by
    obtain ⟨k, a, b, r, r', q', rfl, rfl, h1, rfl⟩ := eqCells_int h
    obtain ⟨q1, q2, g1, g2, rfl⟩ := eqCells_append h1
    exact ⟨a == b && q1, q2, by simp [eqCells, g1], by simpa using g2, by simp [Bool.and_assoc]⟩
  | false :: s1, s2, xs, ys, q, h => by
    obtain ⟨a, b, r, r', q', rfl, rfl, h1, rfl⟩ := eqCells_bool h
    obtain ⟨q1, q2, g1, g2, rfl⟩ := eqCells_append h1
    exact ⟨a == b && q1, q2, by simp [eqCells, g1], by simpa using g2, by simp [Bool.and_assoc]⟩

/-- a value of a type: a struct is an aggregate, what is one cell is none -/
def FormOk (P : Program) (t : TypeId) (x : AV) : Prop := match agOf P t with
  | some true => ∃ cs, x = .agg cs
  | _ => x.cells = [x]

theorem eqKinds_ag {d : Nat} {t : TypeId} {ks : List Bool} (h : eqKinds P d t = some ks) : ∃ ag, agOf P t = some ag ∧ (ag = false → ks.length = 1) := by
  cases d with
  | zero => simp [eqKinds] at h
  | succ d =>
    unfold eqKinds at h
    split at h
    · rename_i hu; simp at h; subst h; exact ⟨false, by simp [agOf, hu, isAggD], by simp⟩
    · rename_i hu; simp at h; subst h; exact ⟨false, by simp [agOf, hu, isAggD], by simp⟩
    · rename_i hu; exact ⟨true, by simp [agOf, hu, isAggD], by simp⟩
    · cases h

theorem eq_run : ∀ (d : Nat) (t : TypeId) (ks : List Bool), eqKinds P d t = some ks → ∀ (D : Nat), d ≤ D → ∀ (ax ay : AV) (vx vy : Value) (q : Bool), RelV σ S w vx ax → RelV σ S w vy ay →
    FormOk P t ax → FormOk P t ay → eqCells ks ax.cells ay.cells = some q → (Op.equalIn D t vx vy).run P w = .ok q w
  | 0, t, ks, h, _, _, _, _, _, _, _, _, _, _, _, _ => by simp [eqKinds] at h
  | d + 1, t, ks, h, 0, hD, _, _, _, _, _, _, _, _, _, _ => by omega
  | d + 1, t, ks, h, D + 1, hD, ax, ay, vx, vy, q, hx, hy, fx, fy, hq => by
    unfold eqKinds at h
    split at h
    · rename_i kd hu
      simp at h; subst h
      have hag : agOf P t = some false := by simp [agOf, hu, isAggD]
      simp only [FormOk, hag] at fx fy
      rw [fx, fy] at hq
      obtain ⟨k, a, b, r, r', q', h1, h2, h3, rfl⟩ := eqCells_int hq
      simp only [List.cons.injEq] at h1 h2
      obtain ⟨rfl, rfl⟩ := h1
      obtain ⟨rfl, rfl⟩ := h2
      obtain ⟨_, _, rfl⟩ := eqCells_nil h3
      rw [hx.int_inv, hy.int_inv, run_equalIn_int w D t k kd a b hu]
      simp
    · rename_i hu
      simp at h; subst h
      have hag : agOf P t = some false := by simp [agOf, hu, isAggD]
      simp only [FormOk, hag] at fx fy
      rw [fx, fy] at hq
      obtain ⟨a, b, r, r', q', h1, h2, h3, rfl⟩ := eqCells_bool hq
      simp only [List.cons.injEq] at h1 h2
      obtain ⟨rfl, rfl⟩ := h1
      obtain ⟨rfl, rfl⟩ := h2
      obtain ⟨_, _, rfl⟩ := eqCells_nil h3
      rw [hx.bool_inv, hy.bool_inv, run_equalIn_bool' w D t a b hu]
      simp
    · rename_i fields hu
      split at h
      · cases h
      · rename_i hst
        have hst' : P.stoodInHeld t = false := by simpa using hst
        have hag : agOf P t = some true := by simp [agOf, hu, isAggD]
        simp only [FormOk, hag] at fx fy
        obtain ⟨xs, rfl⟩ := fx
        obtain ⟨ys, rfl⟩ := fy
        have agg : ∀ {v : Value} {cs : List AV}, RelV σ S w v (.agg cs) → ∃ vs, v = .agg vs ∧ vs.size = cs.length ∧ ∀ (i : Nat) v c, vs[i]? = some v → cs[i]? = some c → RelV σ S w v c := by
          intro v cs hv
          cases hv with
          | imm hv => cases hv with | agg vs _ hl hr => exact ⟨vs, rfl, hl, fun i v c h1 h2 => .imm (hr i v c h1 h2)⟩
          | agg vs _ hl hr => exact ⟨vs, rfl, hl, hr⟩
        obtain ⟨us, rfl, lu, ru⟩ := agg hx
        obtain ⟨vs, rfl, lv, rv⟩ := agg hy
        have hfo : P.fieldsOf t = fields := by simp [Program.fieldsOf, hu]
        rw [run_equalIn_struct w D t us vs (by rw [hfo]; exact hu) hst', hfo]
        simp only [AV.cells] at hq
        have key : ∀ (fs : List Field) (n : Nat) (ks : List Bool) (q : Bool), eqKindsL P (eqKinds P d) n fs = some ks → n + ks.length ≤ xs.length → n + ks.length ≤ ys.length → eqCells ks (xs.drop n) (ys.drop n) = some q →
            (Op.eqFields D us vs fs).run P w = .ok q w := by
          intro fs
          induction fs with
          | nil =>
            intro n ks q hk _ _ hq
            simp [eqKindsL] at hk; subst hk
            obtain ⟨_, _, rfl⟩ := eqCells_nil hq
            simp [Op.eqFields]
          | cons f fs ih =>
            intro n ks q hk hlx hly hq
            simp only [eqKindsL] at hk
            split at hk
            · cases hk
            · rename_i hno
              have hname : f.name ≠ "_" := fun h => hno (.inl h)
              have hoff : f.offset = n := Decidable.of_not_not fun h => hno (.inr h)
              split at hk
              · rename_i k1 hk1
                split at hk
                · rename_i hsz
                  split at hk
                  · rename_i rs hrs
                    simp at hk; subst hk
                    obtain ⟨q1, q2, g1, g2, rfl⟩ := eqCells_append hq
                    obtain ⟨ag, hagf, h1⟩ := eqKinds_ag hk1
                    simp only [List.length_append] at hlx hly
                    have hpart : ∀ (zs : List AV), n + k1.length ≤ zs.length → ∃ v, Abs.part ag n k1.length zs = some v ∧ FormOk P f.type v → True := fun _ _ => ⟨.any, fun _ => trivial⟩
                    clear hpart
                    have getp : ∀ (zs zs' : List AV), n + k1.length ≤ zs.length → eqCells k1 ((zs.drop n).take k1.length) zs' = some q1 ∨ eqCells k1 zs' ((zs.drop n).take k1.length) = some q1 →
                        ∃ v, Abs.part ag n k1.length zs = some v ∧ v.cells = (zs.drop n).take k1.length ∧ FormOk P f.type v := by
                      intro zs zs' hle hqq
                      unfold Abs.part
                      rw [if_pos hle]
                      cases ag with
                      | true => exact ⟨.agg ((zs.drop n).take k1.length), by simp, rfl, by simp [FormOk, hagf]⟩
                      | false =>
                        have hone := h1 rfl
                        have hlt : n < zs.length := by omega
                        have htk : (zs.drop n).take k1.length = [zs[n]] := by
                          rw [hone, List.drop_eq_getElem_cons hlt]; rfl
                        rw [htk] at hqq
                        have hcell : zs[n].cells = [zs[n]] := by
                          match k1, hone with
                          | [b], _ =>
                            cases b with
                            | true =>
                              rcases hqq with hqq | hqq
                              · obtain ⟨k, a, b, r, r', q', e1, _⟩ := eqCells_int hqq
                                simp only [List.cons.injEq] at e1; rw [e1.1]; rfl
                              · obtain ⟨k, a, b, r, r', q', _, e1, _⟩ := eqCells_int hqq
                                simp only [List.cons.injEq] at e1; rw [e1.1]; rfl
                            | false =>
                              rcases hqq with hqq | hqq
                              · obtain ⟨a, b, r, r', q', e1, _⟩ := eqCells_bool hqq
                                simp only [List.cons.injEq] at e1; rw [e1.1]; rfl
                              · obtain ⟨a, b, r, r', q', _, e1, _⟩ := eqCells_bool hqq
                                simp only [List.cons.injEq] at e1; rw [e1.1]; rfl
                        exact ⟨zs[n], by simp [hlt], by rw [htk, hcell], by simp only [FormOk, hagf]; exact hcell⟩
                    obtain ⟨px, hpx, hpxc, hpxf⟩ := getp xs _ (by omega) (.inl g1)
                    obtain ⟨py, hpy, hpyc, hpyf⟩ := getp ys _ (by omega) (.inr g1)
                    obtain ⟨ux, rx, relx⟩ := run_part (P := P) hsz hagf h1 hpx lu ru
                    obtain ⟨uy, ry, rely⟩ := run_part (P := P) hsz hagf h1 hpy lv rv
                    have ih1 := eq_run d f.type k1 hk1 D (by omega) px py ux uy q1 relx rely hpxf hpyf (by rw [hpxc, hpyc]; exact g1)
                    have ih2 := ih (n + k1.length) rs q2 hrs (by omega) (by omega) (by simpa [List.drop_drop] using g2)
                    simp only [Op.eqFields, hname, ne_eq, not_false_eq_true, if_true, Sem.run_bind, hoff, rx, ry, Result.andThen_ok, ih1]
                    cases q1 with
                    | true => simpa using ih2
                    | false => simp
                  · cases hk
                · cases hk
              · cases hk
        have hlen := eqCells_len hq
        exact key fields.toList 0 ks q h (by omega) (by omega) (by simpa using hq)
    · cases h

theorem eq_sound {op : BinOp} {t ty : TypeId} {x y : Operand} {ax ay : AOpd} {ks : Option (List Bool)} (hT : TmpsOk σ S w T a) (hR : RowsOk Own σ S w R) (ho : o.op = .binOp op t x y ty)
    (hop : op = .eql ∨ op = .neq) (hks : (ks = none ∧ P.underlying t = some .bool) ∨ (∃ k fs, ks = some k ∧ P.underlying t = some (.struct fs) ∧ eqKinds P 8 t = some k ∧ P.eqGuardType P.depth t = false))
    (hx : opd P (some t) x = some ax) (hy : opd P (some t) y = some ay) (call : CallF) (h : evalOp call s (getO T) R (.eq (isNeq op) ks ax ay) = some e) :
    ∃ v w', OpRuns P a o w v w' ∧ Step Own σ S w R s e v w' := by
  have fin : ∀ {q : Bool}, (eqGuard op t x y (a.eval x) (a.eval y)).run P w = .ok () w → (Op.equal t (a.eval x) (a.eval y)).run P w = .ok q w →
      binOp op t (a.eval x) (a.eval y) = (if isNeq op then (do pure (.bool (!(← Op.equal t (a.eval x) (a.eval y))))) else (do pure (.bool (← Op.equal t (a.eval x) (a.eval y))))) →
      ∃ v w', OpRuns P a o w v w' ∧ Step Own σ S w R s (.pure (.bool (q != (isNeq op)))) v w' := by
    intro q h1 h2 h3
    refine fin_pure hR (sem := do eqGuard op t x y (a.eval x) (a.eval y); binOp op t (a.eval x) (a.eval y)) (by simp [execOp, ho]) (u := .bool (q != (isNeq op))) ?_ (.imm (.bool _))
    rw [Sem.run_bind, h1, Result.andThen_ok, h3]
    rcases hop with rfl | rfl <;> simp [h2, isNeq]
  simp only [evalOp] at h
  rcases hks with ⟨rfl, hu⟩ | ⟨k, fs, rfl, hu, hk, hg⟩
  · split at h
    · rename_i p q _ hgx hgy
      simp only [Option.some.injEq] at h; subst h
      have h1 := (opd_sound hT hx hgx).bool_inv
      have h2 := (opd_sound hT hy hgy).bool_inv
      rw [h1, h2] at fin
      refine fin (q := p == q) ?_ ?_ ?_
      · unfold eqGuard
        rcases hop with rfl | rfl <;> simp
      · exact run_equalIn_bool' w 9999 t p q hu
      · rcases hop with rfl | rfl <;> simp [binOp, isNeq]
    · rename_i hn _ _; cases hn
    · cases h
  · split at h
    · rename_i hn _ _; cases hn
    · rename_i ks' xs ys hke hgx hgy
      simp only [Option.some.injEq] at hke; subst hke
      split at h
      · rename_i q hq
        simp only [Option.some.injEq] at h; subst h
        have h1 := opd_sound hT hx hgx
        have h2 := opd_sound hT hy hgy
        have hag : agOf P t = some true := by simp [agOf, hu, isAggD]
        have hrun := eq_run 8 t k hk 10000 (by omega) (.agg xs) (.agg ys) _ _ q h1 h2 (by simp [FormOk, hag]) (by simp [FormOk, hag]) hq
        have agg : ∀ {v : Value} {cs : List AV}, RelV σ S w v (.agg cs) → ∃ vs, v = .agg vs := by
          intro v cs hv
          cases hv with
          | imm hv => cases hv with | agg vs _ hl hr => exact ⟨vs, rfl⟩
          | agg vs _ hl hr => exact ⟨vs, rfl⟩
        obtain ⟨us, e1⟩ := agg h1
        obtain ⟨vs, e2⟩ := agg h2
        rw [e1, e2] at fin hrun
        refine fin ?_ hrun ?_
        · unfold eqGuard
          rcases hop with rfl | rfl <;> simp [hg]
        · rcases hop with rfl | rfl <;> simp [binOp, isNeq]
      · cases h
    · cases h

end
end Go.Abs
