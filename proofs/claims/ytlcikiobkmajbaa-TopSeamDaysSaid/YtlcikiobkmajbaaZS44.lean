/-
 Several texts: ZS41, ZS42, ZS43, ZS44.
-/
import Derived.Test.YtlcikiobkmajbaaZS27
set_option linter.all false
namespace Go.Abs.Seam
set_option maxRecDepth 10000
set_option maxHeartbeats 1000000
section
variable {r : Int} {bad : List Int} {l : List Cut}
theorem comp_filter (hv : CutsOk r bad l) (p : Nat → Bool) : ∀ (o : List Nat) {f g : Int},0 ≤ f → f ≤ g → (∀ i ∈ o,i < l.length) → comp r bad l (o.filter p) f ≤ comp r bad l o g
 | [],f,g,h0,h,_ => h
 | i :: o,f,g,h0,h,hi => by
  have h1:=hi i (by simp)
  have b:=endF_bound hv (f:=g) (by omega) h1
  have m:=endF_mono hv h1 h0 h;have e : comp r bad l (i :: o) g = comp r bad l o (endF r bad l g i):=rfl;rw [e];have hi' : ∀ j ∈ o,j < l.length:=fun j hj => hi j (List.mem_cons_of_mem _ hj)
  by_cases c : p i = true
  ·rw [List.filter_cons_of_pos c]
   have b2:=endF_bound hv (f:=f) h0 h1;exact comp_filter hv p o (f:=endF r bad l f i) (by omega) m hi'
  ·rw [List.filter_cons_of_neg c]
   exact comp_filter hv p o h0 (by omega) hi'
theorem best_sub (hv : CutsOk r bad l) {p q : Nat → Bool} (h : ∀ i,i < l.length → p i = true → q i = true) {x y : Int} (hp : Best r bad l p 0 y) (hq : Best r bad l q 0 x) : y ≤ x:=by
 obtain ⟨⟨o,ho,hc⟩,_⟩:=hq;have h1 : IsOrd l.length p (o.filter p):=⟨ho.1.filter _,fun i => by
  rw [List.mem_filter,ho.2];constructor
  ·rintro ⟨⟨h1,_⟩,h3⟩; exact ⟨h1,h3⟩
  ·rintro ⟨h1,h2⟩; exact ⟨⟨h1,h i h1 h2⟩,h2⟩⟩
 have:=hp.2 _ h1;have:=comp_filter hv p o (Int.le_refl 0) (Int.le_refl 0) fun i hi => ((ho.2 i).1 hi).1
 omega
def Feas (r : Int) (bad : List Int) (l : List Cut) (m : Int) (p : Nat → Bool) : Prop:=∃ x,Best r bad l p 0 x ∧ x ≤ m
theorem feas_mono (hv : CutsOk r bad l) {m : Int} {p q : Nat → Bool} (h : ∀ i,i < l.length → p i = true → q i = true) (hq : Feas r bad l m q) : Feas r bad l m p:=by
 obtain ⟨x,hx,hm⟩:=hq;obtain ⟨y,hy⟩:=best_exists hv _ p 0 rfl;have:=best_sub hv h hy hx;exact ⟨y,hy,by omega⟩
theorem feas_iff {m : Int} {p : Nat → Bool} {x : Int} (h : Best r bad l p 0 x) : Feas r bad l m p ↔ x ≤ m :=
 ⟨fun ⟨_,h1,h2⟩ => by rw [h.uniq h1]; exact h2,fun h2 => ⟨x,h,h2⟩⟩
end
section
variable {n : Nat} {P : (Nat → Bool) → Prop}
def Asg (n : Nat) (P : (Nat → Bool) → Prop) (s : Nat → Bool) (m : Nat) : Prop:=∃ h : Nat → Nat,(∀ i,i < n → s i = true → h i < m) ∧ ∀ j,j < m → P fun i => s i && decide (h i = j)
def LeastAsg (n : Nat) (P : (Nat → Bool) → Prop) (s : Nat → Bool) (m : Nat) : Prop:=Asg n P s m ∧ ∀ m',Asg n P s m' → m ≤ m'
theorem LeastAsg.uniq {s : Nat → Bool} {m m' : Nat} (h : LeastAsg n P s m) (h' : LeastAsg n P s m') : m = m':=Nat.le_antisymm (h.2 _ h'.1) (h'.2 _ h.1)
variable (hmono : ∀ p q : Nat → Bool,(∀ i,i < n → p i = true → q i = true) → P q → P p)
include hmono
theorem asg_congr {s s' : Nat → Bool} (h : ∀ i,i < n → s i = s' i) {m : Nat} (ha : Asg n P s m) : Asg n P s' m:=by
 obtain ⟨f,h1,h2⟩:=ha;exact ⟨f,fun i hi hs => h1 i hi (by rw [h i hi]; exact hs),fun j hj => hmono _ _ (fun i hi hp => by rw [h i hi]; exact hp) (h2 j hj)⟩
theorem leastAsg_congr {s s' : Nat → Bool} (h : ∀ i,i < n → s i = s' i) {m : Nat} (ha : LeastAsg n P s m) : LeastAsg n P s' m :=
 ⟨asg_congr hmono h ha.1,fun m' h' => ha.2 m' (asg_congr hmono (fun i hi => (h i hi).symm) h')⟩
theorem asg_none {s : Nat → Bool} (h : ∀ i,i < n → s i = false) : LeastAsg n P s 0 :=
 ⟨⟨fun _ => 0,⟨fun i hi hs => (by rw [h i hi] at hs; cases hs),fun j hj => absurd hj (Nat.not_lt_zero _)⟩⟩,fun _ _ => Nat.zero_le _⟩
theorem asg_add {s t : Nat → Bool} {m : Nat} (ht : P t) (h : Asg n P (fun i => s i && !t i) m) : Asg n P s (m + 1):=by
 obtain ⟨f,h1,h2⟩:=h;refine ⟨fun i => if t i then m else f i,fun i hi hs => ?_,fun j hj => ?_⟩
 ·by_cases c : t i = true
  ·simp [c]
  ·have:=h1 i hi (by simp [hs,c])
   simp only [c]; simp; omega
 ·by_cases e : j = m
  ·subst e
   refine hmono _ _ (fun i hi hp => ?_) ht
   by_cases c : t i = true
   ·exact c
   ·simp only [c,Bool.and_eq_true,decide_eq_true_eq] at hp
    simp at hp;have:=h1 i hi (by simp [hp.1,c])
    omega
  ·refine hmono _ _ (fun i hi hp => ?_) (h2 j (by omega))
   by_cases c : t i = true
   ·simp [c] at hp; omega
   ·simp only [c,Bool.and_eq_true,decide_eq_true_eq] at hp ⊢
    simp at hp ⊢;exact hp
theorem asg_sub {s : Nat → Bool} {m : Nat} {i0 : Nat} (hi0 : i0 < n) (hs : s i0 = true) (h : Asg n P s m) : ∃ t : Nat → Bool,P t ∧ (∀ i,t i = true → s i = true) ∧ t i0 = true ∧ 1 ≤ m ∧ Asg n P (fun i => s i && !t i) (m - 1):=by
 obtain ⟨f,h1,h2⟩:=h;have hm:=h1 i0 hi0 hs;refine ⟨fun i => s i && decide (f i = f i0),h2 _ hm,fun i h => by simp at h; exact h.1,by simp [hs],by omega,fun i => if f i = m - 1 then f i0 else f i,fun i hi hp => ?_,fun j hj => ?_⟩
 ·simp at hp
  have:=h1 i hi hp.1;have h3 : ¬ f i = f i0:=by
   rcases hp.2 with h | h
   ·rw [hp.1] at h; cases h
   ·exact h
  dsimp only;split <;> omega
 ·by_cases e : j = f i0
  ·subst e
   refine hmono _ _ (fun i hi hp => ?_) (h2 (m - 1) (by omega))
   simp only [Bool.and_eq_true,Bool.not_eq_true',decide_eq_true_eq] at hp ⊢;obtain ⟨⟨q1,q2⟩,q3⟩:=hp;refine ⟨q1,?_⟩;by_cases c : f i = m - 1
   ·exact c
   ·rw [if_neg c] at q3
    simp [q1,q3] at q2
  ·refine hmono _ _ (fun i hi hp => ?_) (h2 j (by omega))
   simp only [Bool.and_eq_true,Bool.not_eq_true',decide_eq_true_eq] at hp ⊢;obtain ⟨⟨q1,q2⟩,q3⟩:=hp;refine ⟨q1,?_⟩;by_cases c : f i = m - 1
   ·rw [if_pos c] at q3; exact absurd q3.symm e
   ·rw [if_neg c] at q3; exact q3
theorem asg_singles (h1 : ∀ i,i < n → P fun j => decide (j = i)) (s : Nat → Bool) : Asg n P s n :=
 ⟨fun i => i,fun i hi _ => hi,fun j hj => hmono _ _ (fun i _ hp => by simp at hp; simp [hp.2]) (h1 j hj)⟩
end
theorem sub_next : ∀ (s p t : Nat),p &&& s = p → t &&& s = t → t < p → t ≤ (p - 1) &&& s
 | s,p,t,hp,ht,h => by
  have bit : ∀ a b : Nat,a &&& b = 2 * (a / 2 &&& b / 2) + (a % 2) * (b % 2):=by
   intro a b;have e1 : (a &&& b) / 2 = a / 2 &&& b / 2:=by
    have:=Nat.and_div_two_pow (a:=a) (b:=b) (n:=1);simpa using this
   have e2 : (a &&& b) % 2 = (a % 2) * (b % 2):=by
    have:=Nat.and_mod_two_pow (a:=a) (b:=b) (n:=1);rw [Nat.pow_one] at this;rw [this];rcases Nat.mod_two_eq_zero_or_one a with h1 | h1 <;> rcases Nat.mod_two_eq_zero_or_one b with h2 | h2 <;> simp [h1,h2]
   omega
  by_cases h0 : p = 0
  ·omega
  have b1:=bit p s;have b2:=bit t s;have b3:=bit (p - 1) s;rw [hp] at b1;rw [ht] at b2;have m1 : (p % 2) * (s % 2) ≤ 1:=by rcases Nat.mod_two_eq_zero_or_one p with h1 | h1 <;> rcases Nat.mod_two_eq_zero_or_one s with h2 | h2 <;> simp [h1,h2]
  have m2 : (t % 2) * (s % 2) ≤ 1:=by rcases Nat.mod_two_eq_zero_or_one t with h1 | h1 <;> rcases Nat.mod_two_eq_zero_or_one s with h2 | h2 <;> simp [h1,h2]
  have hp' : p / 2 &&& s / 2 = p / 2:=by omega
  have ht' : t / 2 &&& s / 2 = t / 2:=by omega
  rcases Nat.mod_two_eq_zero_or_one p with c | c
  ·have e1 : (p - 1) / 2 = p / 2 - 1:=by omega
   have e2 : (p - 1) % 2 = 1:=by omega
   rw [e1,e2] at b3;have ih:=sub_next (s / 2) (p / 2) (t / 2) hp' ht' (by omega)
   have : (t % 2) * (s % 2) ≤ s % 2:=by rcases Nat.mod_two_eq_zero_or_one t with h1 | h1 <;> simp [h1]
   omega
  ·have e1 : (p - 1) / 2 = p / 2:=by omega
   have e2 : (p - 1) % 2 = 0:=by omega
   rw [e1,e2,hp'] at b3;omega
theorem and_sub (s p : Nat) : (p &&& s) &&& s = p &&& s:=by rw [Nat.and_assoc,Nat.and_self]
theorem mask_bit {s t i : Nat} (h : t &&& s = t) (hi : t.testBit i = true) : s.testBit i = true:=by
 rw [← h,Nat.testBit_and,Bool.and_eq_true] at hi; exact hi.2
theorem mask_of (n : Nat) (p : Nat → Bool) : ∃ t,t < 2 ^ n ∧ ∀ i,t.testBit i = (decide (i < n) && p i):=by
 induction n with
 | zero => exact ⟨0,by simp,fun i => by simp⟩
 | succ n ih =>
  obtain ⟨t,h1,h2⟩:=ih;refine ⟨if p n then t ||| 2 ^ n else t,?_,fun i => ?_⟩
  ·split
   ·exact Nat.or_lt_two_pow (Nat.lt_of_lt_of_le h1 (Nat.pow_le_pow_right (by omega) (by omega))) (Nat.pow_lt_pow_right (by omega) (by omega))
   ·exact Nat.lt_of_lt_of_le h1 (Nat.pow_le_pow_right (by omega) (by omega))
  ·by_cases c : p n = true
   ·rw [if_pos c,Nat.testBit_or,h2,Nat.testBit_two_pow]
    by_cases e : n = i
    ·subst e; simp [c]
    ·simp only [e,decide_false,Bool.or_false]
     have : decide (i < n + 1) = decide (i < n):=by apply decide_eq_decide.2; omega
     rw [this]
   ·rw [if_neg c,h2]
    by_cases e : i = n
    ·subst e; simp [c]
    ·have : decide (i < n + 1) = decide (i < n):=by apply decide_eq_decide.2; omega
     rw [this]
end Go.Abs.Seam
set_option linter.all false
namespace Go.Abs.Seam
set_option maxRecDepth 10000
set_option maxHeartbeats 4000000
def pickL (l : List Cut) (js : List Nat) : List Cut:=js.map (cutAt l)
section
variable {r : Int} {bad : List Int} {l : List Cut} {js : List Nat}
end
def fib (a : Nat) (h : Nat → Nat) (j : Nat) : List Nat:=(List.range a).filter fun i => decide (h i = j)
def putH (h : Nat → Nat) (a i : Nat) : Nat → Nat:=fun k => if k = a then i else h k
def grp (l : List Cut) (a : Nat) (h : Nat → Nat) (j : Nat) : AV:=.list 2 ((pickL l (fib a h j)).map Cut.av)
def Onto (n : Nat) (P : (Nat → Bool) → Prop) (a c : Nat) (h : Nat → Nat) (m : Nat) : Prop :=
 c ≤ m ∧ ∃ h' : Nat → Nat,(∀ i,i < a → h' i = h i) ∧ (∀ i,i < n → h' i < m) ∧ ∀ j,j < m → P fun i => decide (h' i = j)
section
variable {n : Nat} {P : (Nat → Bool) → Prop} (hmono : ∀ p q : Nat → Bool,(∀ i,i < n → p i = true → q i = true) → P q → P p)
include hmono
end
def LeastOr (Q : Nat → Prop) (v : Int) : Prop:=(v = 1099511627776 ∧ ∀ m,¬ Q m) ∨ ∃ m : Nat,v = m ∧ Q m ∧ m ≤ 100 ∧ ∀ m',Q m' → m ≤ m'
theorem LeastOr.bound {Q : Nat → Prop} {v : Int} (h : LeastOr Q v) : 0 ≤ v ∧ v ≤ 1099511627776:=by
 rcases h with ⟨h,_⟩ | ⟨m,h,_,h2,_⟩ <;> omega
end Go.Abs.Seam
set_option linter.all false
namespace Go.Abs.Seam
set_option maxRecDepth 10000
set_option maxHeartbeats 4000000
@[go_sem] theorem take_allP {α : Type} {k : Nat} {l : List α} (h : l.length ≤ k) : l.take k = l:=List.take_of_length_le h
end Go.Abs.Seam
set_option linter.all false
namespace Go.Abs.Seam
set_option maxRecDepth 10000
set_option maxHeartbeats 4000000
structure InnT (n : Nat) (P : (Nat → Bool) → Prop) (M : Nat → Int) (s k : Nat) (v : Int) : Prop where
 got : v = n ∨ ∃ t,t ≠ 0 ∧ t &&& s = t ∧ k < t ∧ P t.testBit ∧ v = M (andN s t) + 1
 le : v ≤ n
 all : ∀ t,t ≠ 0 → t &&& s = t → k < t → P t.testBit → v ≤ M (andN s t) + 1
section
variable {n : Nat} {P : (Nat → Bool) → Prop} {M : Nat → Int} {s k : Nat} {v : Int}
theorem innT_start : InnT n P M s s n:=⟨.inl rfl,Int.le_refl _,fun t _ h2 h3 _ => by
 have : t ≤ s:=by rw [← h2]; exact Nat.and_le_right
 omega⟩
theorem next_lt (hk0 : k ≠ 0) : (k - 1) &&& s < k:=by
 have : (k - 1) &&& s ≤ k - 1:=Nat.and_le_left;omega
theorem next_case (hk : k &&& s = k) {t : Nat} (h2 : t &&& s = t) (h3 : (k - 1) &&& s < t) : t = k ∨ k < t:=by
 by_cases c : t < k
 ·have:=sub_next s k t hk h2 c; omega
 ·omega
theorem innT_take (h : InnT n P M s k v) (hk0 : k ≠ 0) (hk : k &&& s = k) (hP : P k.testBit) : InnT n P M s ((k - 1) &&& s) (min v (M (andN s k) + 1)):=by
 have hlt:=next_lt (s:=s) hk0;refine ⟨?_,by have:=h.le; omega,fun t h1 h2 h3 h4 => ?_⟩
 ·by_cases c : v ≤ M (andN s k) + 1
  ·rw [Int.min_eq_left c]
   rcases h.got with e | ⟨t,h1,h2,h3,h4,h5⟩
   ·exact .inl e
   ·exact .inr ⟨t,h1,h2,by omega,h4,h5⟩
  ·rw [Int.min_eq_right (by omega)]
   exact .inr ⟨k,hk0,hk,hlt,hP,rfl⟩
 ·rcases next_case hk h2 h3 with rfl | h5
  ·omega
  ·have:=h.all t h1 h2 h5 h4; omega
theorem innT_skip (h : InnT n P M s k v) (hk0 : k ≠ 0) (hk : k &&& s = k) (hP : ¬ P k.testBit) : InnT n P M s ((k - 1) &&& s) v:=by
 have hlt:=next_lt (s:=s) hk0;refine ⟨?_,h.le,fun t h1 h2 h3 h4 => ?_⟩
 ·rcases h.got with e | ⟨t,h1,h2,h3,h4,h5⟩
  ·exact .inl e
  ·exact .inr ⟨t,h1,h2,by omega,h4,h5⟩
 ·rcases next_case hk h2 h3 with rfl | h5
  ·exact absurd h4 hP
  ·exact h.all t h1 h2 h5 h4
theorem innT_least (hmono : ∀ p q : Nat → Bool,(∀ i,i < n → p i = true → q i = true) → P q → P p) (hn : n ≤ 60) (h1 : ∀ i,i < n → P fun j => decide (j = i)) (hs : s < 2 ^ n) (h0 : s ≠ 0)
  (hM : ∀ t,t < s → ∃ m : Nat,M t = m ∧ LeastAsg n P t.testBit m) (h : InnT n P M s 0 v) : ∃ m : Nat,v = m ∧ LeastAsg n P s.testBit m:=by
 have h63 : s < 9223372036854775808:=by
  have : 2 ^ n ≤ 2 ^ 60:=Nat.pow_le_pow_right (by omega) hn
  omega
 have hlt : ∀ t,t ≠ 0 → t &&& s = t → andN s t < s:=by
  intro t q1 q2;obtain ⟨i,hi⟩:=Nat.exists_testBit_of_ne_zero q1;have hle:=andN_le (a:=s) (b:=t) h63;rcases Nat.lt_or_ge (andN s t) s with c | c
  ·exact c
  ·have e : andN s t = s:=by omega
   have:=andN_bit (a:=s) (b:=t) (j:=i) h63;rw [e,mask_bit q2 hi,hi] at this;simp at this
 have hbit : ∀ t i,(andN s t).testBit i = (s.testBit i && !t.testBit i):=fun t i => andN_bit h63
 have hmin : ∀ m',Asg n P s.testBit m' → v ≤ m':=by
  intro m' ha;obtain ⟨i0,hi0⟩:=Nat.exists_testBit_of_ne_zero h0;have hi0n : i0 < n:=by
   apply Classical.byContradiction;intro c;rw [Nat.testBit_lt_two_pow (Nat.lt_of_lt_of_le hs (Nat.pow_le_pow_right (by omega) (by omega)))] at hi0; cases hi0
  obtain ⟨tp,q1,q2,q3,q4,q5⟩:=asg_sub hmono hi0n hi0 ha;obtain ⟨t,t1,t2⟩:=mask_of n tp;have t3 : t &&& s = t:=by
   apply Nat.eq_of_testBit_eq;intro i;rw [Nat.testBit_and,t2];by_cases c : tp i = true
   ·rw [q2 i c]; simp
   ·simp [c]
  have t4 : t ≠ 0:=by
   intro e;have:=t2 i0;rw [e,Nat.zero_testBit] at this;simp [hi0n,q3] at this
  have t5 : P t.testBit:=hmono _ _ (fun i hi hp => by rw [t2] at hp; simp at hp; exact hp.2) q1
  have:=h.all t t4 t3 (by omega) t5
  obtain ⟨m,e,hl⟩:=hM _ (hlt t t4 t3);have:=hl.2 (m' - 1) (asg_congr hmono (fun i hi => by rw [hbit,t2]; simp [hi]) q5)
  omega
 rcases h.got with e | ⟨t,q1,q2,_,q3,e⟩
 ·exact ⟨n,e,asg_singles hmono h1 _,fun m' h' => by have:=hmin m' h'; omega⟩
 ·obtain ⟨m,e2,hl⟩:=hM _ (hlt t q1 q2)
  exact ⟨m + 1,by omega,asg_add hmono q3 (asg_congr hmono (fun i hi => hbit t i) hl.1),fun m' h' => by have:=hmin m' h'; omega⟩
end
theorem part_lt {s t : Nat} (h63 : s < 9223372036854775808) (q1 : t ≠ 0) (q2 : t &&& s = t) : andN s t < s:=by
 obtain ⟨i,hi⟩:=Nat.exists_testBit_of_ne_zero q1;have hle:=andN_le (a:=s) (b:=t) h63;rcases Nat.lt_or_ge (andN s t) s with c | c
 ·exact c
 ·have e : andN s t = s:=by omega
  have:=andN_bit (a:=s) (b:=t) (j:=i) h63;rw [e,mask_bit q2 hi,hi] at this;simp at this
theorem single_iff {r : Int} {l : List Cut} (hv : CutsOk r [] l) {picks x : Int} {i : Nat} (hb : Best r [] l (2 ^ i).testBit 0 x) : (Feas r [] l picks fun j => decide (j = i)) ↔ x ≤ picks:=by
 refine feas_iff (best_congr (fun j _ => ?_) hb)
 rw [Nat.testBit_two_pow];apply decide_eq_decide.2; omega
theorem Pieces_ok (r picks : Int) (l : List Cut) (h : cutsE r [] l = 0) (hp : 1 ≤ picks ∧ picks ≤ 100000) : ∃ q,lim F 21 [iv r,iv picks,.list 2 (l.map Cut.av)] = some q ∧
  ((∃ m : Nat,q = (.tuple [iv m,iv 0],[]) ∧ LeastAsg l.length (Feas r [] l picks) (fun _ => true) m) ∨ (q = (.tuple [iv 0,iv 9],[]) ∧ ∃ i,i < l.length ∧ ¬ Feas r [] l picks fun j => decide (j = i))):=by
 have hv:=cutsE_zero h;have hmono:=fun p q hh => feas_mono hv (m:=picks) (p:=p) (q:=q) hh
 have hw:=within_ok 1 100000 [picks] (by simp)
 simp only [List.map_cons,List.map_nil,List.all_cons,List.all_nil,Bool.and_true] at hw;rw [decide_eq_true hp] at hw;have hn:=newTailor_ok r [] l;rw [if_pos h,h] at hn;obtain ⟨q,hpl,P,rfl,hlP,hP⟩:=plans_ok r [] l hv;simp only [tailorV,List.map_nil] at hn hpl;have hl8:=hv.ll;have hN : 2 ^ l.length ≤ 256:=Nat.le_trans (Nat.pow_le_pow_right (n:=2) (by omega) hl8) (by omega)
 have hN0 : 0 < 2 ^ l.length:=Nat.pow_pos (by omega)
 have hpow : ∀ i,i < l.length → 2 ^ i < 2 ^ l.length:=fun i hi => Nat.pow_lt_pow_right (by omega) hi
 have hbit : ∀ i,(2 ^ l.length - 1).testBit i = decide (i < l.length):=fun i => Nat.testBit_two_pow_sub_one _ _
 have hfe : ∀ t,t < 2 ^ l.length → (Feas r [] l picks t.testBit ↔ (planAt P t).fin ≤ picks):=fun t ht => feas_iff (hP t ht).1
 have hsi : ∀ i,i < l.length → ((Feas r [] l picks fun j => decide (j = i)) ↔ (planAt P (2 ^ i)).fin ≤ picks):=fun i hi => single_iff hv (hP _ (hpow i hi)).1
 have hleast:=fun {M : Nat → Int} {s : Nat} {v : Int} h1 hs h0 hM hI => innT_least (n:=l.length) (P:=Feas r [] l picks) (M:=M) (s:=s) (v:=v) hmono (by omega) h1 hs h0 hM hI
 have htake:=fun {M : Nat → Int} {s k : Nat} {v : Int} hI h0 hk hq => innT_take (n:=l.length) (P:=Feas r [] l picks) (M:=M) (s:=s) (k:=k) (v:=v) hI h0 hk hq
 have hskip:=fun {M : Nat → Int} {s k : Nat} {v : Int} hI h0 hk hq => innT_skip (n:=l.length) (P:=Feas r [] l picks) (M:=M) (s:=s) (k:=k) (v:=v) hI h0 hk hq
 have hzero : LeastAsg l.length (Feas r [] l picks) (0 : Nat).testBit 0:=asg_none hmono fun i _ => Nat.zero_testBit i
 have hfull : ∀ m,LeastAsg l.length (Feas r [] l picks) (2 ^ l.length - 1).testBit m → LeastAsg l.length (Feas r [] l picks) (fun _ => true) m:=fun m hm => leastAsg_congr hmono (fun i hi => by rw [hbit]; simp [hi]) hm
 clear hP hmono hbit hv;generalize hQQ : Feas r [] l picks = Q at *;generalize hNN : 2 ^ l.length = N at *;refine lim_ex (fn:=a21) (k:=3) (res:=[.tmp 6,.tmp 7]) rfl rfl rfl (by simp -implicitDefEqProofs(maxSteps:=9^7)(disch:=first|exact Yo rfl|omega|(simp only[go_sem]<;>omega)|fail)only[go_sem]) ?_
 try delta mvA
 try delta opA
 try delta tA
 simp -implicitDefEqProofs(maxSteps:=9^7)(disch:=first|exact Yo rfl|omega|(simp only[go_sem]<;>omega)|fail)only[go_sem]
 repeat(first|apply Ya|apply Yb|apply Yc|((first|apply Yd|apply Ye|apply Yf|apply Yg|apply Yh);simp -implicitDefEqProofs(maxSteps:=9^7)(disch:=first|exact Yo rfl|omega|(simp only[go_sem]<;>omega)|fail)only[go_sem,hw,hn,hpl,hlP]<;>try with_reducible rfl)|apply Yi|apply Yj|apply Yk|apply Yl|apply Ym|apply Yn)
 apply Yu l.length (fun i fr => fr = ⟨[(1,iv picks),(2,.list 2 (l.map Cut.av)),(10,.slice 640 0 N),(31,iv l.length),(32,iv i)],[(640,.arr 3 (P.map Plan.av))],[],10000000⟩ ∧ ∀ j,j < i → Q fun k => decide (k = j))
 ·simp -implicitDefEqProofs(maxSteps:=9^7)(disch:=first|exact Yo rfl|omega|(simp only[go_sem]<;>omega)|fail)only[go_sem,norm_eq,Ok.some]
  intro j hj;omega
 rintro i fr hi ⟨rfl,hsing⟩;by_cases hil : i < l.length
 ·have f1:=w_shl1 i (by omega)
  have hpi:=hpow i hil;have x1 : P[2 ^ i]? = some (planAt P (2 ^ i)):=planAt_eq (by omega)
  have x2 : ((2 ^ i : Nat) : Int) < N:=by omega
  have hs:=hsi i hil;clear hpow hfe hsi hleast htake hskip hzero hfull;generalize 2 ^ i = t at *;by_cases c : (planAt P t).fin ≤ picks
  ·repeat(first|apply Ya|apply Yb|apply Yc|((first|apply Yd|apply Ye|apply Yf|apply Yg|apply Yh);simp -implicitDefEqProofs(maxSteps:=9^7)(disch:=first|exact Yo rfl|omega|(simp only[go_sem]<;>omega)|fail)only[go_sem,hil,Int.ofNat_lt,f1,List.getElem?_map,x1,x2,Option.map_some,Plan.av.eq_1,show ¬ picks < (planAt P t).fin by omega]<;>try with_reducible rfl)|apply Yi|apply Yj|apply Yk|apply Yl|apply Ym|apply Yn)
   apply Ys
   ·simp -implicitDefEqProofs(maxSteps:=9^7)(disch:=first|exact Yo rfl|omega|(simp only[go_sem]<;>omega)|fail)only[go_sem,norm_eq,Ok.some]; with_reducible rfl
   refine ⟨hil,by simp,fun j hj => ?_⟩
   by_cases e : j = i
   ·subst e; exact hs.2 c
   ·exact hsing j (by omega)
  ·repeat(first|apply Ya|apply Yb|apply Yc|((first|apply Yd|apply Ye|apply Yf|apply Yg|apply Yh);simp -implicitDefEqProofs(maxSteps:=9^7)(disch:=first|exact Yo rfl|omega|(simp only[go_sem]<;>omega)|fail)only[go_sem,hil,Int.ofNat_lt,f1,List.getElem?_map,x1,x2,Option.map_some,Plan.av.eq_1,show picks < (planAt P t).fin by omega]<;>try with_reducible rfl)|apply Yi|apply Yj|apply Yk|apply Yl|apply Ym|apply Yn)
   refine finp_ret (r:=(.tuple [iv 0,iv 9],[])) ?_ (.inr ⟨rfl,i,hil,fun h => c (hs.1 h)⟩)
   simp -implicitDefEqProofs(maxSteps:=9^7)(disch:=first|exact Yo rfl|omega|(simp only[go_sem]<;>omega)|fail)only[go_sem]
 ·obtain rfl : i = l.length:=by omega
  repeat(first|apply Ya|apply Yb|apply Yc|((first|apply Yd|apply Ye|apply Yf|apply Yg|apply Yh);simp -implicitDefEqProofs(maxSteps:=9^7)(disch:=first|exact Yo rfl|omega|(simp only[go_sem]<;>omega)|fail)only[go_sem,Int.lt_irrefl]<;>try with_reducible rfl)|apply Yi|apply Yj|apply Yk|apply Yl|apply Ym|apply Yn)
  apply Yu (N - 1) (fun k fr => ∃ M : List Int,fr = ⟨[(1,iv picks),(2,.list 2 (l.map Cut.av)),(10,.slice 640 0 N),(12,.slice 768 0 N),(13,iv (k + 1 : Nat))],[(640,.arr 3 (P.map Plan.av)),(768,.arr 1 (M.map fun n => iv n))],[],10000000⟩ ∧
   M.length = N ∧ ∀ s,s ≤ k → s < N → ∃ m : Nat,stAt M s = m ∧ LeastAsg l.length Q s.testBit m)
  ·simp -implicitDefEqProofs(maxSteps:=9^7)(disch:=first|exact Yo rfl|omega|(simp only[go_sem]<;>omega)|fail)only[go_sem,norm_eq,Ok.some]
   refine ⟨List.replicate N 0,by simp,by simp,fun s h1 h2 => ?_⟩
   obtain rfl : s = 0:=by omega
   exact ⟨0,by simp [stAt,List.getElem?_replicate,hN0],hzero⟩
  rintro k fr hk ⟨M,rfl,hlM,hM⟩;by_cases hkN : k + 1 < N
  ·have hMb : ∀ s,s ≤ k → 0 ≤ stAt M s ∧ stAt M s ≤ 8:=by
    intro s hs;obtain ⟨m,e,hl⟩:=hM s hs (by omega)
    have:=hl.2 _ (asg_singles (fun p q hh => by rw [← hQQ]; exact feas_mono (cutsE_zero h) hh) (fun i hi => hsing i hi) s.testBit)
    omega
   have x0 : ((k + 1 : Nat) : Int) < N:=by omega
   have hfin : ∀ v,InnT l.length Q (stAt M) (k + 1) 0 v → ∃ m : Nat,v = m ∧ LeastAsg l.length Q (k + 1).testBit m:=fun v hI => hleast (fun i hi => hsing i hi) hkN (by omega) (fun t ht => hM t (by omega) (by omega)) hI
   have h0 : InnT l.length Q (stAt M) (k + 1) (k + 1) l.length:=innT_start;have hlt:=fun t q1 q2 => part_lt (s:=k + 1) (t:=t) (by omega) q1 q2
   generalize hsk : k + 1 = s at *;have x1 : M[s]? = some (stAt M s):=stAt_eq (by omega)
   have hset : ∀ x : Int,(M.map fun n => iv n).set s (iv x) = (M.set s x).map fun n => iv n:=fun x => by rw [List.map_set]
   have hset2 : ∀ v x : Int,((M.set s v).map fun n => iv n).set s (iv x) = (M.set s x).map fun n => iv n:=fun v x => by rw [← List.map_set,List.set_set]
   clear hleast hpow hsi hfull hzero;repeat(first|apply Ya|apply Yb|apply Yc|((first|apply Yd|apply Ye|apply Yf|apply Yg|apply Yh);simp -implicitDefEqProofs(maxSteps:=9^7)(disch:=first|exact Yo rfl|omega|(simp only[go_sem]<;>omega)|fail)only[go_sem,x0,List.getElem?_map,x1,Option.map_some,hset]<;>try with_reducible rfl)|apply Yi|apply Yj|apply Yk|apply Yl|apply Ym|apply Yn)
   apply Wp.loopM (fun k' fr => ∃ v,fr = ⟨[(1,iv picks),(2,.list 2 (l.map Cut.av)),(10,.slice 640 0 N),(12,.slice 768 0 N),(13,iv s),(14,iv k')],[(640,.arr 3 (P.map Plan.av)),(768,.arr 1 ((M.set s v).map fun n => iv n))],[],10000000⟩ ∧ k' ≤ s ∧ k' &&& s = k' ∧ InnT l.length Q (stAt M) s k' v)
   ·simp -implicitDefEqProofs(maxSteps:=9^7)(disch:=first|exact Yo rfl|omega|(simp only[go_sem]<;>omega)|fail)only[go_sem,norm_eq,Ok.some]
    exact ⟨s,l.length,by simp,Nat.le_refl _,Nat.and_self _,h0⟩
   rintro k' fr ⟨v,rfl,hk's,hk'm,hI⟩;by_cases hk0 : k' = 0
   ·subst hk0
    obtain ⟨m,e,hl⟩:=hfin v hI;repeat(first|apply Ya|apply Yb|apply Yc|((first|apply Yd|apply Ye|apply Yf|apply Yg|apply Yh);simp -implicitDefEqProofs(maxSteps:=9^7)(disch:=first|exact Yo rfl|omega|(simp only[go_sem]<;>omega)|fail)only[go_sem,Int.lt_irrefl]<;>try with_reducible rfl)|apply Yi|apply Yj|apply Yk|apply Yl|apply Ym|apply Yn)
    apply Ys
    ·simp -implicitDefEqProofs(maxSteps:=9^7)(disch:=first|exact Yo rfl|omega|(simp only[go_sem]<;>omega)|fail)only[go_sem,norm_eq,Ok.some]; with_reducible rfl
    refine ⟨by omega,M.set s v,by simp,by simp; omega,fun s' h1 h2 => ?_⟩
    rw [stAt_set (by omega)]
    by_cases e' : s' = s
    ·subst e'; rw [if_pos rfl]; exact ⟨m,e,hl⟩
    ·rw [if_neg e']; exact hM s' (by omega) h2
   ·have hnl:=next_lt (s:=s) hk0
    have y0 : (0 : Int) < k':=by omega
    have y1 : P[k']? = some (planAt P k'):=planAt_eq (by omega)
    have y2 : (k' : Int) < N:=by omega
    have e1 : (k' : Int) - 1 = ((k' - 1 : Nat) : Int):=by omega
    have e2:=w_and (k' - 1) s (by omega) (by omega)
    have e3:=w_andN s k' (by omega)
    have hal:=hlt k' hk0 hk'm;have y3 : (M.set s v)[s]? = some v:=by rw [List.getElem?_set_self (by omega)]
    have y4 : (M.set s v)[andN s k']? = some (stAt M (andN s k')):=by rw [List.getElem?_set_ne (by omega)]; exact stAt_eq (by omega)
    have y5 : ((andN s k' : Nat) : Int) < N:=by omega
    have hb:=hMb (andN s k') (by omega)
    have hvl:=hI.le;have hq:=hfe k' (by omega)
    have y6 : (s : Int) < N:=by omega
    have hv0 : -1 ≤ v:=by
     rcases hI.got with e | ⟨t,q1,q2,_,_,e⟩
     ·omega
     ·have:=hMb (andN s t) (by have:=hlt t q1 q2; omega); omega
    by_cases c : (planAt P k').fin ≤ picks
    ·have hT:=htake hI hk0 hk'm (hq.2 c)
     clear hfin hM hMb hfe htake hskip h0 hlt hI;repeat(first|apply Ya|apply Yb|apply Yc|((first|apply Yd|apply Ye|apply Yf|apply Yg|apply Yh);simp -implicitDefEqProofs(maxSteps:=9^7)(disch:=first|exact Yo rfl|omega|(simp only[go_sem]<;>omega)|fail)only[go_sem,y0,y2,e1,List.getElem?_map,y1,Option.map_some,Plan.av.eq_1,c,y3,y4,y5,y6,e2,e3,hset2]<;>try with_reducible rfl)|apply Yi|apply Yj|apply Yk|apply Yl|apply Ym|apply Yn)
     apply Ys
     ·simp -implicitDefEqProofs(maxSteps:=9^7)(disch:=first|exact Yo rfl|omega|(simp only[go_sem]<;>omega)|fail)only[go_sem,norm_eq,Ok.some]; with_reducible rfl
     exact ⟨_,hnl,_,by simp,by omega,and_sub _ _,hT⟩
    ·have hT:=hskip hI hk0 hk'm (fun h => c (hq.1 h))
     clear hfin hM hMb hfe htake hskip h0 hlt hI;repeat(first|apply Ya|apply Yb|apply Yc|((first|apply Yd|apply Ye|apply Yf|apply Yg|apply Yh);simp -implicitDefEqProofs(maxSteps:=9^7)(disch:=first|exact Yo rfl|omega|(simp only[go_sem]<;>omega)|fail)only[go_sem,y0,y2,e1,List.getElem?_map,y1,Option.map_some,Plan.av.eq_1,c,e2]<;>try with_reducible rfl)|apply Yi|apply Yj|apply Yk|apply Yl|apply Ym|apply Yn)
     apply Ys
     ·simp -implicitDefEqProofs(maxSteps:=9^7)(disch:=first|exact Yo rfl|omega|(simp only[go_sem]<;>omega)|fail)only[go_sem,norm_eq,Ok.some]; with_reducible rfl
     exact ⟨_,hnl,_,by simp,by omega,and_sub _ _,hT⟩
  ·have hkk : k + 1 = N:=by omega
   obtain ⟨m,e,hl⟩:=hM (N - 1) (by omega) (by omega)
   have x1 : M[N - 1]? = some (stAt M (N - 1)):=stAt_eq (by omega)
   have e1 : (N : Int) - 1 = ((N - 1 : Nat) : Int):=by omega
   have x2 : ((N - 1 : Nat) : Int) < N:=by omega
   rw [hkk];repeat(first|apply Ya|apply Yb|apply Yc|((first|apply Yd|apply Ye|apply Yf|apply Yg|apply Yh);simp -implicitDefEqProofs(maxSteps:=9^7)(disch:=first|exact Yo rfl|omega|(simp only[go_sem]<;>omega)|fail)only[go_sem,Int.lt_irrefl,e1,x2,List.getElem?_map,x1,Option.map_some,e]<;>try with_reducible rfl)|apply Yi|apply Yj|apply Yk|apply Yl|apply Ym|apply Yn)
   refine finp_ret (r:=(.tuple [iv m,iv 0],[])) ?_ (.inl ⟨m,rfl,hfull m hl⟩);simp -implicitDefEqProofs(maxSteps:=9^7)(disch:=first|exact Yo rfl|omega|(simp only[go_sem]<;>omega)|fail)only[go_sem]
end Go.Abs.Seam
