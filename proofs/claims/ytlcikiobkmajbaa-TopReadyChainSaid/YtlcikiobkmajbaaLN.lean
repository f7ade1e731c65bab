/-
 Several texts: LM, LN.
-/
import Derived.Test.YtlcikiobkmajbaaBits
set_option linter.all false
namespace Go.Abs.Lo
structure OrdA where
 w : Int
 c : Int
 v : Int
 e : Int
 t : Int
 deriving Inhabited
structure MillA where
 ws : List Int
 ch : Int
 os : List OrdA
def MillA.o (m : MillA) (i : Nat) : OrdA:=m.os.getD i default
def MillA.wd (m : MillA) (i : Nat) : Int:=m.ws.getD i 0
structure OrdA.Ok (x : OrdA) : Prop where
 w1 : 1≤x.w∧x.w≤100
 c1 : 0≤x.c∧x.c≤100
 v1 : 1≤x.v∧x.v≤100
 e1 : 0≤x.e∧x.e≤300
 t1 : 0≤x.t∧x.t≤300
structure MillA.Ok (m : MillA) : Prop where
 l1 : 1≤m.ws.length∧m.ws.length≤3
 w1 : ∀ w ∈ m.ws,1≤w∧w≤100
 ch1 : 0≤m.ch∧m.ch≤20
 n6 : m.os.length≤6
 os1 : ∀ x ∈ m.os,x.Ok
theorem MillA.Ok.o {m : MillA} (h : m.Ok) {i : Nat} (hi : i < m.os.length) : (m.o i).Ok:=by
 unfold MillA.o;rw [List.getD_eq_getElem?_getD,List.getElem?_eq_getElem hi];exact h.os1 _ (List.getElem_mem hi)
theorem MillA.Ok.wd {m : MillA} (h : m.Ok) {i : Nat} (hi : i < m.ws.length) : 1≤m.wd i∧m.wd i≤100:=by
 unfold MillA.wd;rw [List.getD_eq_getElem?_getD,List.getElem?_eq_getElem hi];exact h.w1 _ (List.getElem_mem hi)
def never : Int:=1048576
abbrev FixA:=Nat → Option (Nat × Int)
def beg (m : MillA) (f : FixA) (o loom : Nat) (frm : Int) : Int :=
 match f o with
 | none => if m.wd loom < (m.o o).w ∨ (m.o o).t < max (m.o o).e frm + (m.o o).v then never else max (m.o o).e frm
 | some r => if r.1 ≠ loom ∨ r.2 < max (m.o o).e frm then never else if m.wd loom < (m.o o).w ∨ (m.o o).t < r.2 + (m.o o).v then never else r.2
def chg (m : MillA) (a b : Nat) : Int:=if (m.o a).c ≠ (m.o b).c then m.ch else 0
theorem beg_mono {m : MillA} {f : FixA} {o loom : Nat} {a b : Int} (hab : a≤b) (h : beg m f o loom b < never) : beg m f o loom a≤beg m f o loom b:=by
 unfold beg at *;split at h
 ·split at h
  ·omega
  ·rename_i h1
   rw [if_neg h1,if_neg (by omega)]
   omega
 ·split at h
  ·omega
  ·rename_i h1
   split at h
   ·omega
   ·rename_i h2
    rw [if_neg h1,if_neg h2,if_neg (by omega)]
    exact Int.le_refl _
theorem beg_in {m : MillA} {f : FixA} {o loom : Nat} {a : Int} (h : beg m f o loom a < never) : (m.o o).e≤beg m f o loom a∧a≤beg m f o loom a∧beg m f o loom a + (m.o o).v≤(m.o o).t∧(m.o o).w≤m.wd loom:=by
 unfold beg at *;split at h
 ·split at h
  ·omega
  ·rename_i h1
   rw [if_neg h1];omega
 ·split at h
  ·omega
  ·rename_i h1
   split at h
   ·omega
   ·rename_i h2
    rw [if_neg h1,if_neg h2];omega
theorem beg_le {m : MillA} (f : FixA) {o loom : Nat} (a : Int) (hv : 1≤(m.o o).v) (ht : (m.o o).t≤300) : beg m f o loom a≤never:=by
 unfold beg never;split
 ·split <;> omega
 ·split
  ·omega
  ·split <;> omega
theorem beg_ge {m : MillA} (f : FixA) {o loom : Nat} (a : Int) (he : 0≤(m.o o).e) : 0≤beg m f o loom a:=by
 unfold beg never;split
 ·split <;> omega
 ·split
  ·omega
  ·split <;> omega
theorem beg_fix {m : MillA} {f f' : FixA} {o loom : Nat} {a : Int} (h : beg m f o loom a < never) (hf : f' o = some (loom,beg m f o loom a)) : beg m f' o loom a = beg m f o loom a:=by
 have h2:=beg_in h;generalize hd : beg m f o loom a = d at *;unfold beg;rw [hf];dsimp only;rw [if_neg (by simp; unfold beg at hd; split at hd <;> split at hd <;> (try split at hd) <;> omega),if_neg (by omega)]
theorem beg_same {m : MillA} {f f' : FixA} {o loom : Nat} (a : Int) (hf : f' o = f o) : beg m f' o loom a = beg m f o loom a:=by
 unfold beg;rw [hf]
inductive Path (m : MillA) (f : FixA) (loom : Nat) : Nat → Nat → Int → Prop
 | one {a : Nat} : a < m.os.length → beg m f a loom 0 < never → Path m f loom (2 ^ a) a (beg m f a loom 0 + (m.o a).v)
 | step {s k a : Nat} {t : Int} : Path m f loom s k t → a < m.os.length → s.testBit a = false → beg m f a loom (t + chg m k a) < never → Path m f loom (s ||| 2 ^ a) a (beg m f a loom (t + chg m k a) + (m.o a).v)
theorem or_pow_bit {s a j : Nat} : (s ||| 2 ^ a).testBit j = (s.testBit j || decide (j = a)):=by
 rw [Nat.testBit_or,Nat.testBit_two_pow];by_cases h : a = j
 ·subst h; simp
 ·have : ¬ j = a:=fun e=>h e.symm
  simp [h,this]
theorem pow_bit {a j : Nat} : (2 ^ a).testBit j = decide (j = a):=by
 rw [Nat.testBit_two_pow];by_cases h : a = j
 ·subst h; simp
 ·have : ¬ j = a:=fun e=>h e.symm
  simp [h,this]
section
variable {m : MillA} {f : FixA} {loom : Nat}
theorem Path.bit {s a : Nat} {t : Int} (h : Path m f loom s a t) : s.testBit a = true:=by
 cases h with
 | one => simp [pow_bit]
 | step => simp [or_pow_bit]
theorem Path.lt {s a : Nat} {t : Int} (h : Path m f loom s a t) : a < m.os.length:=by
 cases h with
 | one h => exact h
 | step _ h => exact h
theorem Path.bits {s a : Nat} {t : Int} (h : Path m f loom s a t) : ∀ j,s.testBit j = true → j < m.os.length:=by
 induction h with
 | one h1 => intro j hj; rw [pow_bit] at hj; have:=of_decide_eq_true hj; omega
 | step h1 h2 _ _ ih =>
  intro j hj;rw [or_pow_bit,Bool.or_eq_true] at hj;rcases hj with hj | hj
  ·exact ih j hj
  ·have:=of_decide_eq_true hj; omega
theorem Path.in {s a : Nat} {t : Int} (h : Path m f loom s a t) : t≤(m.o a).t:=by
 cases h with
 | one h1 h2 => exact (beg_in h2).2.2.1
 | step h1 h2 h3 h4 => exact (beg_in h4).2.2.1
def Soon (m : MillA) (f : FixA) (loom : Nat) (T : Nat → Nat → Int) (b a : Nat) (d : Int) : Prop :=
 (b = 0 → d = beg m f a loom 0)∧(b ≠ 0 → (d = never ∨ ∃ k,k < m.os.length∧b.testBit k = true∧T b k < never∧d = beg m f a loom (T b k + chg m k a)) ∧
  ∀ k,k < m.os.length → b.testBit k = true → T b k < never → d≤beg m f a loom (T b k + chg m k a))
def Entry (m : MillA) (f : FixA) (loom : Nat) (T : Nat → Nat → Int) (s a : Nat) : Prop :=
 (s.testBit a = false → T s a = never)∧(s.testBit a = true → ∃ d,Soon m f loom T (andN s (2 ^ a)) a d∧T s a = if d < never then d + (m.o a).v else never)
theorem small {s : Nat} (h : s < 2 ^ 7) : s < 9223372036854775808:=by omega
theorem andN_or {s a : Nat} (hs : s < 2 ^ 7) (h : s.testBit a = true) : andN s (2 ^ a) ||| 2 ^ a = s:=by
 apply Nat.eq_of_testBit_eq;intro j;rw [or_pow_bit,andN_pow (small hs)];by_cases e : j = a
 ·subst e; simp [h]
 ·simp [e]
theorem or_andN {s a : Nat} (hs : s ||| 2 ^ a < 2 ^ 7) (h : s.testBit a = false) : andN (s ||| 2 ^ a) (2 ^ a) = s:=by
 apply Nat.eq_of_testBit_eq;intro j;rw [andN_pow (small hs),or_pow_bit];by_cases e : j = a
 ·subst e; simp [h]
 ·simp [e]
theorem andN_self (s : Nat) (hs : s < 2 ^ 7) : andN s s = 0:=by
 apply Nat.eq_of_testBit_eq;intro j;rw [andN_bit (small hs)];simp
theorem andN_zero (s : Nat) (hs : s < 2 ^ 7) : andN s 0 = s:=by
 apply Nat.eq_of_testBit_eq;intro j;rw [andN_bit (small hs)];simp
theorem table_ok (hm : m.Ok) {T : Nat → Nat → Int} : ∀ s,0 < s → s < 2 ^ 7 → (∀ s',0 < s' → s'≤s → ∀ a,a < m.os.length → Entry m f loom T s' a) → ∀ a,a < m.os.length →
  (T s a < never → Path m f loom s a (T s a))∧∀ t,Path m f loom s a t → T s a≤t:=by
 intro s;induction s using Nat.strongRecOn with
 | _ s ih =>
  intro h0 h7 hT a ha;obtain ⟨e1,e2⟩:=hT s h0 (Nat.le_refl _) a ha;by_cases hb : s.testBit a = true
  ·obtain ⟨d,⟨d1,d2⟩,hTd⟩:=e2 hb
   have hlt:=andN_lt (i:=a) (small h7) hb;have hle : andN s (2 ^ a)≤s:=by omega
   have hor:=andN_or h7 hb;have ihb : andN s (2 ^ a) ≠ 0 → ∀ k,k < m.os.length → (T (andN s (2 ^ a)) k < never → Path m f loom (andN s (2 ^ a)) k (T (andN s (2 ^ a)) k))∧∀ t,Path m f loom (andN s (2 ^ a)) k t → T (andN s (2 ^ a)) k≤t:=fun hb0 =>
    ih _ hlt (by omega) (by omega) fun s' h1 h2 => hT s' h1 (by omega)
   have hov:=hm.o ha;have v1:=hov.v1;have t1:=hov.t1;constructor
   ·intro hn
    have hdn : d < never:=by
     rw [hTd] at hn;split at hn
     ·assumption
     ·omega
    rw [hTd,if_pos hdn];by_cases hz : andN s (2 ^ a) = 0
    ·have e:=d1 hz
     have hs : s = 2 ^ a:=by rw [← hor,hz]; simp
     rw [hs,e];rw [e] at hdn;exact .one ha hdn
    ·rcases (d2 hz).1 with hd | ⟨k,hk,hkb,hkn,hd⟩
     ·omega
     ·have hp:=((ihb hz) k hk).1 hkn
      have hnb : (andN s (2 ^ a)).testBit a = false:=by rw [andN_pow (small h7)]; simp
      rw [hd] at hdn ⊢;have:=Path.step hp ha hnb hdn;rw [hor] at this;exact this
   ·intro t hp
    rw [hTd];have hdt : d < never∧d + (m.o a).v≤t:=by
     generalize hss : s = s0 at *;cases hp with
     | one h1 h2 =>
      have hz:=andN_self (2 ^ a) h7;rw [d1 hz];exact ⟨h2,Int.le_refl _⟩
     | @step s1 k _ t0 h1 h2 h3 h4 =>
      have hse:=or_andN h7 h3;rw [hse] at d2 ihb;have hs1 : s1 ≠ 0:=fun e=>by
       have:=h1.bit;rw [e] at this;simp at this
      have hTk:=((ihb hs1) k h1.lt).2 t0 h1;have t0b:=h1.in
      have t1b:=(hm.o h1.lt).t1;have hTn : T s1 k < never:=by unfold never; omega
      have hd:=(d2 hs1).2 k h1.lt h1.bit hTn;have hmo:=beg_mono (show T s1 k + chg m k a≤t0 + chg m k a by omega) h4
      exact ⟨by omega,by omega⟩
    rw [if_pos hdt.1];exact hdt.2
  ·have hb' : s.testBit a = false:=by simpa using hb
   refine ⟨fun hn=>?_,fun t hp => ?_⟩
   ·rw [e1 hb'] at hn; omega
   ·exact absurd hp.bit hb
end
end Go.Abs.Lo
set_option linter.all false
namespace Go.Abs.Lo
def canP (m : MillA) (f : FixA) (loom : Nat) (s : Nat) : Prop:=s = 0 ∨ ∃ a t,Path m f loom s a t
def Tog (m : MillA) (f : FixA) : List Nat → Nat → Prop
 | [],s => s = 0
 | loom :: ls,s => ∃ p,p &&& s = p∧canP m f loom p∧Tog m f ls (andN s p)
def upd (f : FixA) (k : Nat) (r : Nat × Int) : FixA:=fun o=>if o = k then some r else f o
theorem Path.same {m : MillA} {f f' : FixA} {loom s a : Nat} {t : Int} (h : Path m f loom s a t) (hf : ∀ j,s.testBit j = true → f' j = f j) : Path m f' loom s a t:=by
 induction h with
 | @one a h1 h2 =>
  have e:=beg_same (m:=m) (loom:=loom) 0 (hf a (by simp [pow_bit]))
  rw [← e] at h2 ⊢;exact .one h1 h2
 | @step s k a t h1 h2 h3 h4 ih =>
  have e:=beg_same (m:=m) (loom:=loom) (t + chg m k a) (hf a (by simp [or_pow_bit]))
  rw [← e] at h4 ⊢;exact .step (ih fun j hj => hf j (by rw [or_pow_bit,hj]; rfl)) h2 h3 h4
theorem canP.same {m : MillA} {f f' : FixA} {loom s : Nat} (h : canP m f loom s) (hf : ∀ j,s.testBit j = true → f' j = f j) : canP m f' loom s:=by
 rcases h with h | ⟨a,t,h⟩
 ·exact .inl h
 ·exact .inr ⟨a,t,h.same hf⟩
theorem sub_bit {p s j : Nat} (h : p &&& s = p) (hj : p.testBit j = true) : s.testBit j = true:=by
 rw [← h,Nat.testBit_and,Bool.and_eq_true] at hj;exact hj.2
theorem Tog.same {m : MillA} {f f' : FixA} : ∀ {ls : List Nat} {s : Nat},s < 2 ^ 7 → Tog m f ls s → (∀ j,s.testBit j = true → f' j = f j) → Tog m f' ls s
 | [],_,_,h,_ => h
 | loom :: ls,s,h7,⟨p,h1,h2,h3⟩,hf => by
  have:=andN_le (a:=s) (b:=p) (small h7);refine ⟨p,h1,h2.same fun j hj => hf j (sub_bit h1 hj),Tog.same (by omega) h3 fun j hj => hf j ?_⟩
  rw [andN_bit (small h7),Bool.and_eq_true] at hj;exact hj.1
theorem Path.fix {m : MillA} {f : FixA} {loom s a k : Nat} {t : Int} (h : Path m f loom s a t) (hk : s.testBit k = true) : ∃ d,(m.o k).e≤d∧d + (m.o k).v≤(m.o k).t∧Path m (upd f k (loom,d)) loom s a t:=by
 induction h with
 | @one a h1 h2 =>
  rw [pow_bit] at hk;obtain rfl:=of_decide_eq_true hk;have h3:=beg_in h2;refine ⟨beg m f k loom 0,h3.1,h3.2.2.1,?_⟩;have e:=beg_fix (f':=upd f k (loom,beg m f k loom 0)) h2 (by simp [upd])
  have:=Path.one (m:=m) (f:=upd f k (loom,beg m f k loom 0)) h1 (by rw [e]; exact h2)
  rw [e] at this;exact this
 | @step s j a t h1 h2 h3 h4 ih =>
  by_cases e : k = a
  ·subst e
   have h5:=beg_in h4;refine ⟨beg m f k loom (t + chg m j k),h5.1,h5.2.2.1,?_⟩;have e:=beg_fix (f':=upd f k (loom,beg m f k loom (t + chg m j k))) h4 (by simp [upd])
   have hp : Path m (upd f k (loom,beg m f k loom (t + chg m j k))) loom s j t:=h1.same fun i hi => by
    unfold upd;rw [if_neg (fun q=>by rw [q,h3] at hi; cases hi)]
   have:=Path.step hp h2 h3 (by rw [e]; exact h4)
   rw [e] at this;exact this
  ·rw [or_pow_bit,decide_eq_false e,Bool.or_false] at hk
   obtain ⟨d,d1,d2,d3⟩:=ih hk;refine ⟨d,d1,d2,?_⟩;have e2:=beg_same (m:=m) (f:=f) (f':=upd f k (loom,d)) (loom:=loom) (o:=a) (t + chg m j a) (by unfold upd; rw [if_neg (fun q=>e q.symm)])
   have:=Path.step d3 h2 h3 (by rw [e2]; exact h4)
   rw [e2] at this;exact this
theorem Tog.fix {m : MillA} {f : FixA} {k : Nat} : ∀ {ls : List Nat} {s : Nat},s < 2 ^ 7 → Tog m f ls s → s.testBit k = true → ∃ loom ∈ ls,∃ d,(m.o k).e≤d∧d + (m.o k).v≤(m.o k).t∧Tog m (upd f k (loom,d)) ls s
 | [],s,_,h,hk => by
  have : s = 0:=h;rw [this] at hk;simp at hk
 | loom :: ls,s,h7,⟨p,h1,h2,h3⟩,hk => by
  have hle:=andN_le (a:=s) (b:=p) (small h7);by_cases hp : p.testBit k = true
  ·have hp0 : p ≠ 0:=fun e=>by rw [e] at hp; simp at hp
   obtain ⟨a,t,h4⟩:=h2.resolve_left hp0;obtain ⟨d,d1,d2,d3⟩:=h4.fix hp;refine ⟨loom,by simp,d,d1,d2,p,h1,.inr ⟨a,t,d3⟩,h3.same (by omega) fun j hj => ?_⟩
   unfold upd;rw [if_neg (fun q=>by rw [andN_bit (small h7),q,hp] at hj; simp at hj)]
  ·obtain ⟨l2,hl2,d,d1,d2,d3⟩:=Tog.fix (k:=k) (by omega) h3 (by rw [andN_bit (small h7),hk]; simpa using hp)
   refine ⟨l2,by simp [hl2],d,d1,d2,p,h1,h2.same fun j hj => ?_,d3⟩
   unfold upd;rw [if_neg (fun q=>hp (by rw [← q]; exact hj))]
structure Less (m m' : MillA) : Prop where
 ws : m'.ws = m.ws
 ch : m'.ch = m.ch
 n : m'.os.length = m.os.length
 o : ∀ i,i < m.os.length → (m'.o i).w = (m.o i).w∧(m'.o i).c = (m.o i).c∧(m'.o i).e≤(m.o i).e∧(m'.o i).t = (m.o i).t∧(m'.o i).v≤(m.o i).v
theorem beg_less {m m' : MillA} (h : Less m m') {o loom : Nat} (ho : o < m.os.length) {a b : Int} (hab : a≤b) (hb : beg m (fun _=>none) o loom b < never) : beg m' (fun _=>none) o loom a≤beg m (fun _=>none) o loom b:=by
 obtain ⟨h1,h2,h3,h4,h5⟩:=h.o o ho;have hw : m'.wd loom = m.wd loom:=by unfold MillA.wd; rw [h.ws]
 unfold beg at *;dsimp only at *;split at hb
 ·omega
 ·rename_i hc
  rw [if_neg hc,if_neg (by rw [hw]; omega)]
  omega
theorem chg_less {m m' : MillA} (h : Less m m') {a b : Nat} (ha : a < m.os.length) (hb : b < m.os.length) : chg m' a b = chg m a b:=by
 unfold chg;rw [(h.o a ha).2.1,(h.o b hb).2.1,h.ch]
theorem Path.less {m m' : MillA} (hl : Less m m') {loom s a : Nat} {t : Int} (h : Path m (fun _=>none) loom s a t) : ∃ t',t'≤t∧Path m' (fun _=>none) loom s a t':=by
 induction h with
 | @one a h1 h2 =>
  have h3:=beg_less hl h1 (Int.le_refl 0) h2;have h4:=(hl.o a h1).2.2.2.2;exact ⟨_,by omega,.one (by rw [hl.n]; exact h1) (by omega)⟩
 | @step s k a t h1 h2 h3 h4 ih =>
  obtain ⟨t',h5,h6⟩:=ih;have h7:=beg_less hl h2 (show t' + chg m k a≤t + chg m k a by omega) h4
  have h8:=(hl.o a h2).2.2.2.2;have h9:=chg_less hl h1.lt h2;refine ⟨beg m' (fun _=>none) a loom (t' + chg m' k a) + (m'.o a).v,?_,.step h6 (by rw [hl.n]; exact h2) h3 ?_⟩
  ·rw [h9]; omega
  ·rw [h9]; omega
theorem Tog.less {m m' : MillA} (hl : Less m m') : ∀ {ls : List Nat} {s : Nat},Tog m (fun _=>none) ls s → Tog m' (fun _=>none) ls s
 | [],_,h => h
 | loom :: ls,s,⟨p,h1,h2,h3⟩ => by
  refine ⟨p,h1,?_,Tog.less hl h3⟩;rcases h2 with h2 | ⟨a,t,h2⟩
  ·exact .inl h2
  ·obtain ⟨t',_,h4⟩:=h2.less hl
   exact .inr ⟨a,t',h4⟩
def sumD (m : MillA) : Nat → Int
 | 0 => 0
 | k + 1 => sumD m k + (m.o k).v + m.ch
structure InRow (m : MillA) : Prop where
 ok : m.Ok
 w : ∀ i,i < m.os.length → (m.o i).w≤m.wd 0
 e : ∀ i,i < m.os.length → (m.o i).e = 0
 t : ∀ i,i < m.os.length → sumD m (i + 1)≤(m.o i).t
theorem all_bit {n j : Nat} : (2 ^ n - 1).testBit j = decide (j < n):=Nat.testBit_two_pow_sub_one n j
theorem zero_tog (m : MillA) (f : FixA) : ∀ ls,Tog m f ls 0
 | [] => rfl
 | loom :: ls => ⟨0,by simp,.inl rfl,by rw [andN_zero 0 (by omega)]; exact zero_tog m f ls⟩
def loomsR : Nat → List Nat
 | 0 => []
 | k + 1 => k :: loomsR k
theorem mem_loomsR {k i : Nat} : i ∈ loomsR k ↔ i < k:=by
 induction k with
 | zero => simp [loomsR]
 | succ k ih => simp only [loomsR,List.mem_cons,ih]; omega
end Go.Abs.Lo
