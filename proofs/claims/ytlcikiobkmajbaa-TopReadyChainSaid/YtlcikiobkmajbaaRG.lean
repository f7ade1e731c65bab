/-
 Several texts: MO, MP, MV, RC, RD, RE, RF, RG.
-/
import Derived.KernelRfl
import Derived.Test.YtlcikiobkmajbaaK
import Derived.Test.YtlcikiobkmajbaaFns
import Derived.Test.YtlcikiobkmajbaaEvI
import Derived.Test.YtlcikiobkmajbaaWpE
import Derived.Test.YtlcikiobkmajbaaV0
set_option linter.all false
namespace Go.Abs.Mo
def bestTo (num : Nat → Int) (ok : Bool) (p : Nat) (run : Nat → Nat) : Nat → Nat
 | 0 => 0
 | k + 1 => max (bestTo num ok p run k) (if 0 < run k∧ok = true∧num k < num p then run k + 1 else 0)
def stage (n f : Nat) (num : Nat → Int) (W : Nat → Bool) : Nat → Nat → Nat
 | 0 => fun i=>if i = f then 1 else 0
 | j + 1 => fun i=>if i = (f + j) % n then max (stage n f num W j i) (bestTo num (!W i) i (stage n f num W j) n) else stage n f num W j i
theorem best_le {num : Nat → Int} {ok : Bool} {p : Nat} {run : Nat → Nat} {B : Nat} : ∀ k,bestTo num ok p run k≤B ↔ ∀ i,i < k → 0 < run i → ok = true → num i < num p → run i + 1≤B
 | 0 => by simp [bestTo]
 | k + 1 => by
  rw [bestTo,Nat.max_le,best_le k];constructor
  ·rintro ⟨h1,h2⟩ i hi a b c
   by_cases e : i = k
   ·subst e
    rw [if_pos ⟨a,b,c⟩] at h2;exact h2
   ·exact h1 i (by omega) a b c
  ·intro h
   refine ⟨fun i hi => h i (by omega),?_⟩
   by_cases c : 0 < run k∧ok = true∧num k < num p
   ·rw [if_pos c]; exact h k (by omega) c.1 c.2.1 c.2.2
   ·rw [if_neg c]; omega
theorem best_some {num : Nat → Int} {ok : Bool} {p : Nat} {run : Nat → Nat} : ∀ k,0 < bestTo num ok p run k → ∃ i,i < k∧0 < run i∧ok = true∧num i < num p∧bestTo num ok p run k = run i + 1
 | 0,h => by simp [bestTo] at h
 | k + 1,h => by
  rw [bestTo] at h ⊢;by_cases c : 0 < run k∧ok = true∧num k < num p
  ·rw [if_pos c] at h ⊢
   by_cases c2 : bestTo num ok p run k≤run k + 1
   ·exact ⟨k,by omega,c.1,c.2.1,c.2.2,by omega⟩
   ·obtain ⟨i,h1,h2,h3,h4,h5⟩:=best_some (num:=num) (ok:=ok) (p:=p) (run:=run) k (by omega)
    exact ⟨i,by omega,h2,h3,h4,by omega⟩
  ·rw [if_neg c] at h ⊢
   obtain ⟨i,h1,h2,h3,h4,h5⟩:=best_some (num:=num) (ok:=ok) (p:=p) (run:=run) k (by omega)
   exact ⟨i,by omega,h2,h3,h4,by omega⟩
inductive Asc (A : Nat → Int) (ok : Nat → Bool) : List Nat → Prop
 | one : Asc A ok [0]
 | cons {i j : Nat} {l : List Nat} : Asc A ok (i :: l) → i < j → ok j = true → A i < A j → Asc A ok (j :: i :: l)
theorem Asc.last {A : Nat → Int} {ok : Nat → Bool} {l : List Nat} (h : Asc A ok l) : ∃ i r,l = i :: r:=by
 cases h with
 | one => exact ⟨0,[],rfl⟩
 | cons h1 _ _ _ => exact ⟨_,_,rfl⟩
section
variable {n f : Nat} {num : Nat → Int} {W : Nat → Bool} (hn : 0 < n) (hf : f < n)
include hf
theorem pl_inj {i j : Nat} (hi : i < n) (hj : j < n) (h : (f + i) % n = (f + j) % n) : i = j:=by
 have key : ∀ x,x < n → (f + x) % n = if f + x < n then f + x else f + x - n:=fun x hx => by
  by_cases c : f + x < n
  ·rw [if_pos c,Nat.mod_eq_of_lt c]
  ·rw [if_neg c,Nat.mod_eq_sub_mod (by omega),Nat.mod_eq_of_lt (by omega)]
 rw [key i hi,key j hj] at h;split at h <;> split at h <;> omega
theorem pl_of {p : Nat} (hp : p < n) : ∃ j,j < n∧(f + j) % n = p:=by
 by_cases c : f≤p
 ·exact ⟨p - f,by omega,by rw [show f + (p - f) = p by omega,Nat.mod_eq_of_lt hp]⟩
 ·exact ⟨p + n - f,by omega,by rw [show f + (p + n - f) = p + n by omega,Nat.add_mod_right,Nat.mod_eq_of_lt hp]⟩
theorem stage_later : ∀ j i,j≤i → i < n → stage n f num W j ((f + i) % n) = if i = 0 then 1 else 0
 | 0,i,_,hi => by
  have e : ((f + i) % n = f) ↔ i = 0:=by
   constructor
   ·intro h
    exact pl_inj hf hi (by omega) (by rw [h,Nat.add_zero,Nat.mod_eq_of_lt hf])
   ·rintro rfl; rw [Nat.add_zero,Nat.mod_eq_of_lt hf]
  simp only [stage,e]
 | j + 1,i,hj,hi => by
  have hne : (f + i) % n ≠ (f + j) % n:=fun h=>by
   have:=pl_inj hf hi (by omega) h
   omega
  rw [stage];dsimp only;rw [if_neg hne,stage_later j i (by omega) hi]
theorem stage_stays {i : Nat} (hi : i < n) : ∀ k,i + 1 + k≤n → stage n f num W (i + 1 + k) ((f + i) % n) = stage n f num W (i + 1) ((f + i) % n)
 | 0,_ => rfl
 | k + 1,hk => by
  have hne : (f + i) % n ≠ (f + (i + 1 + k)) % n:=fun h=>by
   have:=pl_inj hf hi (by omega) h
   omega
  rw [← Nat.add_assoc,stage];dsimp only;rw [if_neg hne,stage_stays hi k (by omega)]
def got (n f : Nat) (num : Nat → Int) (W : Nat → Bool) (i : Nat) : Nat:=stage n f num W (i + 1) ((f + i) % n)
theorem stage_got {i j : Nat} (h : i < j) (hj : j≤n) : stage n f num W j ((f + i) % n) = got n f num W i:=by
 have:=stage_stays (num:=num) (W:=W) hf (show i < n by omega) (j - (i + 1)) (by omega)
 rw [show i + 1 + (j - (i + 1)) = j by omega] at this
 exact this
theorem got_is {i : Nat} (hi : i < n) : got n f num W i = max (if i = 0 then 1 else 0) (bestTo num (!W ((f + i) % n)) ((f + i) % n) (stage n f num W i) n):=by
 unfold got;rw [stage];dsimp only;rw [if_pos rfl,stage_later hf i i (Nat.le_refl _) hi]
theorem asc_le {l : List Nat} (h : Asc (fun j=>num ((f + j) % n)) (fun j=>!W ((f + j) % n)) l) : ∀ i r,l = i :: r → i < n → l.length≤got n f num W i:=by
 induction h with
 | one =>
  intro i r e hi;simp only [List.cons.injEq] at e;obtain ⟨rfl,rfl⟩:=e;rw [got_is hf hi,if_pos rfl];simp only [List.length_cons,List.length_nil];omega
 | @cons i j l h1 h2 h3 h4 ih =>
  intro i' r e hj;simp only [List.cons.injEq] at e;obtain ⟨rfl,rfl⟩:=e;have h5:=ih i l rfl (by omega)
  have h6:=stage_got (num:=num) (W:=W) hf h2 (show j≤n by omega)
  rw [got_is hf hj];have h7:=(best_le (num:=num) (ok:=!W ((f + j) % n)) (p:=(f + j) % n) (run:=stage n f num W j) n).1 (Nat.le_refl _) ((f + i) % n) (Nat.mod_lt _ (by omega))
   (by rw [h6]; simp only [List.length_cons] at h5; omega) h3 h4
  rw [h6] at h7;simp only [List.length_cons] at h5 ⊢;omega
theorem got_asc : ∀ i,i < n → 0 < got n f num W i → ∃ r,Asc (fun j=>num ((f + j) % n)) (fun j=>!W ((f + j) % n)) (i :: r)∧(i :: r).length = got n f num W i:=by
 intro i;induction i using Nat.strongRecOn with
 | _ i ih =>
  intro hi hp;rw [got_is hf hi] at hp ⊢;by_cases c : bestTo num (!W ((f + i) % n)) ((f + i) % n) (stage n f num W i) n≤if i = 0 then 1 else 0
  ·rw [Nat.max_eq_left c] at hp ⊢
   by_cases c0 : i = 0
   ·subst c0; exact ⟨[],.one,rfl⟩
   ·rw [if_neg c0] at hp; omega
  ·rw [Nat.max_eq_right (by omega)] at hp ⊢
   obtain ⟨p,h1,h2,h3,h4,h5⟩:=best_some n hp;obtain ⟨k,hk,rfl⟩:=pl_of (n:=n) hf h1;have hki : k < i:=by
    apply Classical.byContradiction;intro hc;have h6:=stage_later (num:=num) (W:=W) hf i k (by omega) hk
    rw [h6] at h2;have hk0 : k = 0:=by
     apply Classical.byContradiction;intro h0;rw [if_neg h0] at h2; omega
    have hi0 : i = 0:=by omega
    subst hk0 hi0;omega
   have h6:=stage_got (num:=num) (W:=W) hf hki (show i≤n by omega)
   rw [h6] at h2 h5;obtain ⟨r,hr,hl⟩:=ih k hki hk h2;exact ⟨k :: r,.cons hr hki h3 h4,by simp only [List.length_cons] at hl ⊢; omega⟩
end
end Go.Abs.Mo
set_option linter.all false
namespace Go.Abs.Mo
theorem pigO : ∀ (L M : List Nat),L.Nodup → (∀ x ∈ L,x ∈ M) → L.length≤M.length
 | [],M,_,_ => by simp
 | x :: L,M,hn,h => by
  rw [List.nodup_cons] at hn;have hx:=h x (by simp)
  have h1:=pigO L (M.erase x) hn.2 fun y hy => (List.mem_erase_of_ne (fun e : y = x => hn.1 (by rw [← e]; exact hy))).2 (h y (by simp [hy]))
  rw [List.length_erase_of_mem hx] at h1;have:=List.length_pos_of_mem hx;simp only [List.length_cons];omega
def fromTo (n f : Nat) (num : Nat → Int) (W : Nat → Bool) : Nat → Nat
 | 0 => 0
 | j + 1 => max (fromTo n f num W j) (got n f num W j)
theorem from_le {n f : Nat} {num : Nat → Int} {W : Nat → Bool} {B : Nat} : ∀ k,fromTo n f num W k≤B ↔ ∀ i,i < k → got n f num W i≤B
 | 0 => by simp [fromTo]
 | k + 1 => by
  rw [fromTo,Nat.max_le,from_le k];constructor
  ·rintro ⟨h1,h2⟩ i hi
   by_cases e : i = k
   ·subst e; exact h2
   ·exact h1 i (by omega)
  ·intro h
   exact ⟨fun i hi => h i (by omega),h k (by omega)⟩
theorem from_at {n f : Nat} {num : Nat → Int} {W : Nat → Bool} : ∀ k,0 < fromTo n f num W k → ∃ i,i < k∧got n f num W i = fromTo n f num W k
 | 0,h => by simp [fromTo] at h
 | k + 1,h => by
  rw [fromTo] at h ⊢;by_cases c : fromTo n f num W k≤got n f num W k
  ·exact ⟨k,by omega,by omega⟩
  ·obtain ⟨i,h1,h2⟩:=from_at (n:=n) (f:=f) (num:=num) (W:=W) k (by omega)
   exact ⟨i,by omega,by omega⟩
def keptTo (n : Nat) (num : Nat → Int) (W : Nat → Bool) : Nat → Nat
 | 0 => 0
 | f + 1 => if W f = false then max (keptTo n num W f) (fromTo n f num W n) else keptTo n num W f
theorem kept_le {n : Nat} {num : Nat → Int} {W : Nat → Bool} {B : Nat} : ∀ k,keptTo n num W k≤B ↔ ∀ f,f < k → W f = false → fromTo n f num W n≤B
 | 0 => by simp [keptTo]
 | k + 1 => by
  rw [keptTo];by_cases c : W k = false
  ·rw [if_pos c,Nat.max_le,kept_le k]
   constructor
   ·rintro ⟨h1,h2⟩ f hf hw
    by_cases e : f = k
    ·subst e; exact h2
    ·exact h1 f (by omega) hw
   ·intro h
    exact ⟨fun f hf => h f (by omega),h k (by omega) c⟩
  ·rw [if_neg c,kept_le k]
   constructor
   ·intro h f hf hw
    by_cases e : f = k
    ·subst e; exact absurd hw c
    ·exact h f (by omega) hw
   ·intro h f hf
    exact h f (by omega)
theorem kept_at {n : Nat} {num : Nat → Int} {W : Nat → Bool} : ∀ k,0 < keptTo n num W k → ∃ f,f < k∧W f = false∧fromTo n f num W n = keptTo n num W k
 | 0,h => by simp [keptTo] at h
 | k + 1,h => by
  rw [keptTo] at h ⊢;by_cases c : W k = false
  ·rw [if_pos c] at h ⊢
   by_cases c2 : keptTo n num W k≤fromTo n k num W n
   ·exact ⟨k,by omega,c,by omega⟩
   ·obtain ⟨f,h1,h2,h3⟩:=kept_at (n:=n) (num:=num) (W:=W) k (by omega)
    exact ⟨f,by omega,h2,by omega⟩
  ·rw [if_neg c] at h ⊢
   obtain ⟨f,h1,h2,h3⟩:=kept_at (n:=n) (num:=num) (W:=W) k h;exact ⟨f,by omega,h2,h3⟩
structure Round (n : Nat) (num : Nat → Int) (W : Nat → Bool) (f : Nat) (l : List Nat) : Prop where
 f1 : f < n
 wf : W f = false
 lt : ∀ j ∈ l,j < n
 asc : Asc (fun j=>num ((f + j) % n)) (fun j=>!W ((f + j) % n)) l
theorem Asc.ok' {A : Nat → Int} {ok : Nat → Bool} {l : List Nat} (h : Asc A ok l) (h0 : ok 0 = true) : ∀ j ∈ l,ok j = true:=by
 induction h with
 | one => intro j hj; rw [List.mem_singleton.1 hj]; exact h0
 | cons h1 h2 h3 h4 ih =>
  intro j hj;rcases List.mem_cons.1 hj with rfl | hj
  ·exact h3
  ·exact ih j hj
theorem Asc.desc {A : Nat → Int} {ok : Nat → Bool} {l : List Nat} (h : Asc A ok l) : ∀ i r,l = i :: r → ∀ j ∈ r,j < i∧A j < A i:=by
 induction h with
 | one =>
  intro i r e j hj;simp only [List.cons.injEq] at e;rw [← e.2] at hj;cases hj
 | @cons i j l h1 h2 h3 h4 ih =>
  intro i' r e k hk;simp only [List.cons.injEq] at e;obtain ⟨rfl,rfl⟩:=e;rcases List.mem_cons.1 hk with rfl | hk
  ·exact ⟨h2,h4⟩
  ·have:=ih i l rfl k hk
   exact ⟨by omega,by omega⟩
theorem Asc.nodup {A : Nat → Int} {ok : Nat → Bool} {l : List Nat} (h : Asc A ok l) : l.Nodup:=by
 induction h with
 | one => simp
 | @cons i j l h1 h2 h3 h4 ih =>
  refine List.nodup_cons.2 ⟨fun hm=>?_,ih⟩
  rcases List.mem_cons.1 hm with e | hm
  ·omega
  ·have:=h1.desc i l rfl j hm
   omega
theorem Asc.zero {A : Nat → Int} {ok : Nat → Bool} {l : List Nat} (h : Asc A ok l) : 0 ∈ l:=by
 induction h with
 | one => simp
 | cons h1 h2 h3 h4 ih => exact List.mem_cons_of_mem _ ih
theorem Asc.mono {A : Nat → Int} {ok ok' : Nat → Bool} {l : List Nat} (h : Asc A ok l) (hk : ∀ j ∈ l,ok j = true → ok' j = true) : Asc A ok' l:=by
 induction h with
 | one => exact .one
 | cons h1 h2 h3 h4 ih => exact .cons (ih fun j hj => hk j (List.mem_cons_of_mem _ hj)) h2 (hk _ (by simp) h3) h4
theorem Round.le {n : Nat} {num : Nat → Int} {W : Nat → Bool} {f : Nat} {l : List Nat} (h : Round n num W f l) : l.length≤keptTo n num W n:=by
 obtain ⟨i,r,rfl⟩:=h.asc.last;have h1:=asc_le h.f1 h.asc i r rfl (h.lt i (by simp))
 have h2:=(from_le (n:=n) (f:=f) (num:=num) (W:=W) n).1 (Nat.le_refl _) i (h.lt i (by simp))
 have h3:=(kept_le (n:=n) (num:=num) (W:=W) n).1 (Nat.le_refl _) f h.f1 h.wf;omega
theorem round_of {n : Nat} {num : Nat → Int} {W : Nat → Bool} (h : 0 < keptTo n num W n) : ∃ f l,Round n num W f l∧l.length = keptTo n num W n:=by
 obtain ⟨f,h1,h2,h3⟩:=kept_at n h;obtain ⟨i,h4,h5⟩:=from_at (n:=n) (f:=f) (num:=num) (W:=W) n (by omega)
 obtain ⟨r,h6,h7⟩:=got_asc (num:=num) (W:=W) h1 i h4 (by omega)
 refine ⟨f,i :: r,⟨h1,h2,fun j hj => ?_,h6⟩,by omega⟩
 rcases List.mem_cons.1 hj with rfl | hj
 ·exact h4
 ·have:=(h6.desc i r rfl j hj).1; omega
def stay (n : Nat) (W : Nat → Bool) : List Nat:=(List.range n).filter fun i=>!W i
theorem mem_stay {n : Nat} {W : Nat → Bool} {i : Nat} : i ∈ stay n W ↔ i < n∧W i = false:=by
 unfold stay;rw [List.mem_filter,List.mem_range];simp
theorem stay_nodup (n : Nat) (W : Nat → Bool) : (stay n W).Nodup:=List.Pairwise.filter _ List.nodup_range
theorem map_nodupO {g : Nat → Nat} : ∀ l : List Nat,l.Nodup → (∀ a ∈ l,∀ b ∈ l,g a = g b → a = b) → (l.map g).Nodup
 | [],_,_ => List.nodup_nil
 | x :: l,h,hi => by
  rw [List.nodup_cons] at h;rw [List.map_cons,List.nodup_cons];refine ⟨fun hm=>?_,map_nodupO l h.2 fun a ha b hb => hi a (by simp [ha]) b (by simp [hb])⟩
  obtain ⟨y,hy,e⟩:=List.mem_map.1 hm;have:=hi y (by simp [hy]) x (by simp) e
  rw [this] at hy;exact h.1 hy
theorem Round.map_nodup {n : Nat} {num : Nat → Int} {W : Nat → Bool} {f : Nat} {l : List Nat} (h : Round n num W f l) : (l.map fun j=>(f + j) % n).Nodup:=by
 exact map_nodupO l h.asc.nodup fun a ha b hb e => pl_inj h.f1 (h.lt a ha) (h.lt b hb) e
theorem Round.sub {n : Nat} {num : Nat → Int} {W : Nat → Bool} {f : Nat} {l : List Nat} (h : Round n num W f l) : ∀ x ∈ l.map (fun j=>(f + j) % n),x ∈ stay n W:=fun x hx => by
 obtain ⟨j,hj,rfl⟩:=List.mem_map.1 hx;have hf:=h.f1;have:=h.asc.ok' (by simp [Nat.mod_eq_of_lt hf,h.wf]) j hj
 exact mem_stay.2 ⟨Nat.mod_lt _ (by omega),by simpa using this⟩
theorem kept_stay {n : Nat} {num : Nat → Int} {W : Nat → Bool} : keptTo n num W n≤(stay n W).length:=by
 by_cases h : 0 < keptTo n num W n
 ·obtain ⟨f,l,hr,hl⟩:=round_of h
  have:=pigO _ _ hr.map_nodup hr.sub;rw [List.length_map] at this;omega
 ·omega
def more (W : Nat → Bool) (p : Nat) : Nat → Bool:=fun i=>if i = p then true else W i
theorem Round.avoid {n : Nat} {num : Nat → Int} {W : Nat → Bool} {f p : Nat} {l : List Nat} (h : Round n num W f l) (hp : p ∉ l.map fun j=>(f + j) % n) : Round n num (more W p) f l where
 f1:=h.f1
 wf:=by
  have hf:=h.f1;have h0 : f ∈ l.map fun j=>(f + j) % n:=List.mem_map.2 ⟨0,h.asc.zero,by rw [Nat.add_zero,Nat.mod_eq_of_lt hf]⟩
  unfold more;rw [if_neg (fun e=>hp (by rw [← e]; exact h0))]
  exact h.wf
 lt:=h.lt
 asc:=h.asc.mono fun j hj hk => by
  unfold more;rw [if_neg (fun e=>hp (by rw [← e]; exact List.mem_map.2 ⟨j,hj,rfl⟩))]
  exact hk
theorem Round.less {n : Nat} {num : Nat → Int} {W W' : Nat → Bool} {f : Nat} {l : List Nat} (h : Round n num W f l) (hs : ∀ i,W i = false → W' i = false) : Round n num W' f l where
 f1:=h.f1
 wf:=hs _ h.wf
 lt:=h.lt
 asc:=h.asc.mono fun j _ hk => by
  have:=hs ((f + j) % n) (by simpa using hk)
  simp [this]
theorem kept_mono {n : Nat} {num : Nat → Int} {W W' : Nat → Bool} (hs : ∀ i,W i = false → W' i = false) : keptTo n num W n≤keptTo n num W' n:=by
 by_cases h : 0 < keptTo n num W n
 ·obtain ⟨f,l,hr,hl⟩:=round_of h
  have:=(hr.less hs).le;omega
 ·omega
theorem kept_all {n : Nat} {num : Nat → Int} {W : Nat → Bool} (h0 : 0 < keptTo n num W n) (h : ∀ p,p < n → W p = false → keptTo n num (more W p) n < keptTo n num W n) : keptTo n num W n = (stay n W).length:=by
 obtain ⟨f,l,hr,hl⟩:=round_of h0;have h1:=kept_stay (n:=n) (num:=num) (W:=W);have h2 : (stay n W).length≤(l.map fun j=>(f + j) % n).length:=pigO _ _ (stay_nodup n W) fun p hp => by
  obtain ⟨h3,h4⟩:=mem_stay.1 hp;apply Classical.byContradiction;intro hc;have h5:=(hr.avoid hc).le;have h6:=h p h3 h4;omega
 rw [List.length_map] at h2;omega
end Go.Abs.Mo
set_option linter.all false
namespace Go.Abs.Mo
def inL (l : List Nat) : Nat → Bool:=fun i=>decide (i ∈ l)
theorem inL_snoc (l : List Nat) (k : Nat) : inL (l ++ [k]) = more (inL l) k:=by
 funext i;unfold inL more;by_cases h : i = k
 ·simp [h]
 ·simp [h]
theorem more_comm (W : Nat → Bool) (p k : Nat) : more (more W k) p = more (more W p) k:=by
 funext i;unfold more;split <;> split <;> rfl
structure MovOk (n : Nat) (num : Nat → Int) (l : List Nat) : Prop where
 asc : l.Pairwise (· < ·)
 lt : ∀ i ∈ l,i < n
 same : keptTo n num (inL l) n = keptTo n num (fun _=>false) n
 all : keptTo n num (inL l) n = (stay n (inL l)).length
 pos : 0 < keptTo n num (inL l) n
structure MovTo (n : Nat) (num : Nat → Int) (k : Nat) (l : List Nat) : Prop where
 asc : l.Pairwise (· < ·)
 lt : ∀ i ∈ l,i < k
 same : keptTo n num (inL l) n = keptTo n num (fun _=>false) n
 need : ∀ p,p < k → inL l p = false → keptTo n num (more (inL l) p) n < keptTo n num (fun _=>false) n
theorem stay_count {n : Nat} {l : List Nat} (ha : l.Pairwise (· < ·)) (hl : ∀ i ∈ l,i < n) : (stay n (inL l)).length + l.length = n:=by
 have hn : l.Nodup:=ha.imp fun h=>by omega
 have h1 : (stay n (inL l) ++ l).Nodup:=List.nodup_append.2 ⟨stay_nodup _ _,hn,fun x hx y hy e => by
  subst e;have:=(mem_stay.1 hx).2;simp [inL,hy] at this⟩
 have h2:=pigO _ (List.range n) h1 fun x hx => by
  rcases List.mem_append.1 hx with hx | hx
  ·exact List.mem_range.2 (mem_stay.1 hx).1
  ·exact List.mem_range.2 (hl x hx)
 have h3:=pigO (List.range n) (stay n (inL l) ++ l) List.nodup_range fun x hx => by
  by_cases c : x ∈ l
  ·exact List.mem_append.2 (.inr c)
  ·exact List.mem_append.2 (.inl (mem_stay.2 ⟨List.mem_range.1 hx,by simp [inL,c]⟩))
 rw [List.length_append,List.length_range] at h2 h3;omega
theorem kept_pos {n : Nat} {num : Nat → Int} (hn : 0 < n) : 0 < keptTo n num (fun _=>false) n:=by
 have : Round n num (fun _=>false) 0 [0]:=⟨hn,rfl,fun j hj => by rw [List.mem_singleton.1 hj]; exact hn,.one⟩
 have:=this.le;simp at this;omega
theorem MovTo.zero (n : Nat) (num : Nat → Int) : MovTo n num 0 [] where
 asc:=List.Pairwise.nil
 lt:=fun i hi => by cases hi
 same:=by
  have : inL [] = fun _=>false:=by funext i; simp [inL]
  rw [this]
 need:=fun p hp => by omega
theorem MovTo.not_in {n : Nat} {num : Nat → Int} {k : Nat} {l : List Nat} (h : MovTo n num k l) : inL l k = false:=by
 unfold inL;rw [decide_eq_false_iff_not];intro hm;have:=h.lt k hm;omega
theorem MovTo.leave {n : Nat} {num : Nat → Int} {k : Nat} {l : List Nat} (h : MovTo n num k l) (hc : keptTo n num (inL (l ++ [k])) n < keptTo n num (fun _=>false) n) : MovTo n num (k + 1) l where
 asc:=h.asc
 lt:=fun i hi => by have:=h.lt i hi; omega
 same:=h.same
 need:=fun p hp hw => by
  by_cases e : p = k
  ·subst e; rw [← inL_snoc]; exact hc
  ·exact h.need p (by omega) hw
theorem MovTo.take {n : Nat} {num : Nat → Int} {k : Nat} {l : List Nat} (h : MovTo n num k l) (hc : ¬ keptTo n num (inL (l ++ [k])) n < keptTo n num (fun _=>false) n) : MovTo n num (k + 1) (l ++ [k]) where
 asc:=List.pairwise_append.2 ⟨h.asc,List.pairwise_singleton _ _,fun a ha b hb => by rw [List.mem_singleton.1 hb]; exact h.lt a ha⟩
 lt:=fun i hi => by
  rcases List.mem_append.1 hi with hi | hi
  ·have:=h.lt i hi; omega
  ·rw [List.mem_singleton.1 hi]; omega
 same:=by
  have h1 : keptTo n num (inL (l ++ [k])) n≤keptTo n num (fun _=>false) n:=kept_mono fun _ _ => rfl
  omega
 need:=fun p hp hw => by
  rw [inL_snoc] at hw ⊢;have hpk : p ≠ k:=fun e=>by subst e; simp [more] at hw
  have hw' : inL l p = false:=by
   unfold more at hw;rw [if_neg hpk] at hw;exact hw
  have h1:=h.need p (by omega) hw'
  have h2 : keptTo n num (more (more (inL l) k) p) n≤keptTo n num (more (inL l) p) n:=kept_mono fun i hi => by
   rw [more_comm] at hi;unfold more at hi ⊢;by_cases e : i = k
   ·rw [if_pos e] at hi; cases hi
   ·rw [if_neg e] at hi; exact hi
  omega
theorem MovTo.len {n : Nat} {num : Nat → Int} {k : Nat} {l : List Nat} (h : MovTo n num k l) (hk : k≤n) : l.length≤n:=by
 have:=stay_count h.asc fun i hi => Nat.lt_of_lt_of_le (h.lt i hi) hk
 omega
theorem MovTo.end {n : Nat} {num : Nat → Int} {l : List Nat} (hn : 0 < n) (h : MovTo n num n l) : MovOk n num l where
 asc:=h.asc
 lt:=h.lt
 same:=h.same
 pos:=by rw [h.same]; exact kept_pos hn
 all:=kept_all (by rw [h.same]; exact kept_pos hn) fun p hp hw => by rw [h.same]; exact h.need p hp hw
theorem MovTo.full {n : Nat} {num : Nat → Int} {k : Nat} {l : List Nat} (hk : k < n) (h : MovTo n num (k + 1) l) (hf : l.length + keptTo n num (fun _=>false) n = n) : MovOk n num l where
 asc:=h.asc
 lt:=fun i hi => by have:=h.lt i hi; omega
 same:=h.same
 pos:=by rw [h.same]; exact kept_pos (by omega)
 all:=by
  have:=stay_count h.asc (n:=n) fun i hi => by have:=h.lt i hi; omega
  rw [h.same];omega
end Go.Abs.Mo
set_option linter.all false
namespace Go.Abs
set_option maxRecDepth 10000
set_option maxHeartbeats 4000000
abbrev numAt (l : List Int) (i : Nat) : Int:=l.getD i 0
structure NumV (l : List Int) (es : List AV) : Prop where
 len : es.length = l.length
 get : ∀ i,i < l.length → ∃ (r : Int) (t : Bool),es[i]? = some (.agg [iv (numAt l i),iv r,.bool t])
theorem after_okO (l : List Int) (es : List AV) (hV : NumV l es) (hk : Int) (i s : Nat) (h0 : 0 < l.length) (h : i < 1000) (hs : s < 1000) : lim F 98 [.agg [iv hk,.list 3 (es),iv hk],iv (i : Int),iv (s : Int)] = some (iv (((i + s) % l.length : Nat) : Int),[]):=by
 have e : Int.tmod ((i : Int) + (s : Int)) (l.length : Int) = (((i + s) % l.length : Nat) : Int):=by rw [Int.tmod_eq_emod_of_nonneg (by omega)]; rfl
 have hl:=hV.len;refine Yr (fn:=a98) (k:=3) (res:=[.tmp 6]) rfl rfl rfl (by simp -implicitDefEqProofs(maxSteps:=9^7)(disch:=first|exact Yo rfl|omega|(simp only[go_sem]<;>omega)|fail)only[go_sem]) ?_
 try delta mvA
 try delta opA
 try delta tA
 simp -implicitDefEqProofs(maxSteps:=9^7)(disch:=first|exact Yo rfl|omega|(simp only[go_sem]<;>omega)|fail)only[go_sem]
 repeat(first|apply Ya|apply Yb|apply Yc|((first|apply Yd|apply Ye|apply Yf|apply Yg|apply Yh);simp -implicitDefEqProofs(maxSteps:=9^7)(disch:=first|exact Yo rfl|omega|(simp only[go_sem]<;>omega)|fail)only[go_sem,hl,e,show ¬ (l.length : Int) = 0 by omega]<;>try with_reducible rfl)|apply Yi|apply Yj|apply Yk|apply Yl|apply Ym|apply Yn)
theorem around_fun (l : List Int) (es : List AV) (hV : NumV l es) (hk : Int) (f : Nat) : lim F 129 [.agg [iv hk,.list 3 (es),iv hk],iv (f : Int)] = some (.func 152 [.iptr (.agg [iv hk,.list 3 (es),iv hk]) 0,.iptr (.agg [iv (f : Int)]) 0],[]):=by
 refine Yr (fn:=a129) (k:=2) (res:=[.tmp 4]) rfl rfl rfl (by simp -implicitDefEqProofs(maxSteps:=9^7)(disch:=first|exact Yo rfl|omega|(simp only[go_sem]<;>omega)|fail)only[go_sem]) ?_
 try delta mvA
 try delta opA
 try delta tA
 simp -implicitDefEqProofs(maxSteps:=9^7)(disch:=first|exact Yo rfl|omega|(simp only[go_sem]<;>omega)|fail)only[go_sem]
 repeat(first|apply Ya|apply Yb|apply Yc|((first|apply Yd|apply Ye|apply Yf|apply Yg|apply Yh);simp -implicitDefEqProofs(maxSteps:=9^7)(disch:=first|exact Yo rfl|omega|(simp only[go_sem]<;>omega)|fail)only[go_sem]<;>try with_reducible rfl)|apply Yi|apply Yj|apply Yk|apply Yl|apply Ym|apply Yn)
def arL (n f i k : Nat) : List (List AV):=(List.range k).map fun j=>[iv (((f + (i + j)) % n : Nat) : Int)]
theorem arL_snoc (n f k : Nat) : arL n f 0 (k + 1) = arL n f 0 k ++ [[iv (((f + k) % n : Nat) : Int)]]:=by
 unfold arL;rw [List.range_succ,List.map_append];simp
theorem arL_cons (n f i k : Nat) : arL n f i (k + 1) = [iv (((f + i) % n : Nat) : Int)] :: arL n f (i + 1) k:=by
 unfold arL;rw [List.range_succ_eq_map,List.map_cons,List.map_map]
 congr 1
 apply List.map_congr_left;intro j _;simp only [Function.comp];rw [show i + (j + 1) = i + 1 + j by omega]
theorem around_guess (l : List Int) (es : List AV) (hV : NumV l es) (hk : Int) (f : Nat) (h0 : 0 < l.length) (hl : l.length≤900) (hf : f < l.length) : lim F 152 [.ylog none [],.iptr (.agg [iv hk,.list 3 (es),iv hk]) 0,.iptr (.agg [iv (f : Int)]) 0] = some (.tuple [],[.ylog none (arL l.length f 0 l.length)]):=by
 have hln:=hV.len;have ha:=fun i (hi : i < l.length) => after_okO l es hV hk f i h0 (by omega) (by omega)
 have hst:=arL_snoc l.length f;generalize l.length = n at *;refine Yr (fn:=a152) (k:=3) (res:=[]) rfl rfl rfl (by simp -implicitDefEqProofs(maxSteps:=9^7)(disch:=first|exact Yo rfl|omega|(simp only[go_sem]<;>omega)|fail)only[go_sem]) ?_
 try delta mvA
 try delta opA
 try delta tA
 simp -implicitDefEqProofs(maxSteps:=9^7)(disch:=first|exact Yo rfl|omega|(simp only[go_sem]<;>omega)|fail)only[go_sem]
 repeat(first|apply Ya|apply Yb|apply Yc|((first|apply Yd|apply Ye|apply Yf|apply Yg|apply Yh);simp -implicitDefEqProofs(maxSteps:=9^7)(disch:=first|exact Yo rfl|omega|(simp only[go_sem]<;>omega)|fail)only[go_sem,hln]<;>try with_reducible rfl)|apply Yi|apply Yj|apply Yk|apply Yl|apply Ym|apply Yn)
 apply Yt n (fun i=>⟨[(0,.yieldT 200000),(1,.iptr (.agg [iv hk,.list 3 es,iv hk]) 0),(2,.iptr (.agg [iv (f : Int)]) 0),(8,iv (n : Int)),(9,iv (i : Int))],[(200000,.num 3500000),(3500000,.log none (arL n f 0 i))],[(200000,none)],10000000⟩) (fun _=>True)
 ·simp -implicitDefEqProofs(maxSteps:=9^7)(disch:=first|exact Yo rfl|omega|(simp only[go_sem]<;>omega)|fail)only[go_sem,norm_eq,Ok.some]
  simp [arL]
 ·trivial
 intro i hi _;by_cases h' : i < n
 ·have a1:=ha i h'
  have a2:=hst i;rw [a2];clear ha hst a2;generalize (f + i) % n = v at *;generalize arL n f 0 i = B at *;repeat(first|apply Ya|apply Yb|apply Yc|((first|apply Yd|apply Ye|apply Yf|apply Yg|apply Yh);simp -implicitDefEqProofs(maxSteps:=9^7)(disch:=first|exact Yo rfl|omega|(simp only[go_sem]<;>omega)|fail)only[go_sem,h',Int.ofNat_lt,a1,hln]<;>try with_reducible rfl)|apply Yi|apply Yj|apply Yk|apply Yl|apply Ym|apply Yn)
  apply Ys
  ·simp -implicitDefEqProofs(maxSteps:=9^7)(disch:=first|exact Yo rfl|omega|(simp only[go_sem]<;>omega)|fail)only[go_sem,norm_eq,Ok.some]; with_reducible rfl
  exact ⟨h',by simp,trivial⟩
 ·obtain rfl : i = n:=by omega
  repeat(first|apply Ya|apply Yb|apply Yc|((first|apply Yd|apply Ye|apply Yf|apply Yg|apply Yh);simp -implicitDefEqProofs(maxSteps:=9^7)(disch:=first|exact Yo rfl|omega|(simp only[go_sem]<;>omega)|fail)only[go_sem,h',Int.ofNat_lt]<;>try with_reducible rfl)|apply Yi|apply Yj|apply Yk|apply Yl|apply Ym|apply Yn)
theorem around_check (l : List Int) (es : List AV) (hV : NumV l es) (hk : Int) (f : Nat) (h0 : 0 < l.length) (hl : l.length≤900) (hf : f < l.length) : lim F 152 [.ylog (some 0) (arL l.length f 0 l.length),.iptr (.agg [iv hk,.list 3 (es),iv hk]) 0,.iptr (.agg [iv (f : Int)]) 0] = some (.tuple [],[.ylog (some 0) []]):=by
 have hln:=hV.len;have ha:=fun i (hi : i < l.length) => after_okO l es hV hk f i h0 (by omega) (by omega)
 have hst : ∀ i,i < l.length → arL l.length f i (l.length - i) = [iv (((f + i) % l.length : Nat) : Int)] :: arL l.length f (i + 1) (l.length - (i + 1)):=fun i hi => by
  rw [show l.length - i = l.length - (i + 1) + 1 by omega,arL_cons]
 generalize l.length = n at *;refine Yr (fn:=a152) (k:=3) (res:=[]) rfl rfl rfl (by simp -implicitDefEqProofs(maxSteps:=9^7)(disch:=first|exact Yo rfl|omega|(simp only[go_sem]<;>omega)|fail)only[go_sem]) ?_
 try delta mvA
 try delta opA
 try delta tA
 simp -implicitDefEqProofs(maxSteps:=9^7)(disch:=first|exact Yo rfl|omega|(simp only[go_sem]<;>omega)|fail)only[go_sem]
 repeat(first|apply Ya|apply Yb|apply Yc|((first|apply Yd|apply Ye|apply Yf|apply Yg|apply Yh);simp -implicitDefEqProofs(maxSteps:=9^7)(disch:=first|exact Yo rfl|omega|(simp only[go_sem]<;>omega)|fail)only[go_sem,hln]<;>try with_reducible rfl)|apply Yi|apply Yj|apply Yk|apply Yl|apply Ym|apply Yn)
 apply Yt n (fun i=>⟨[(0,.yieldT 200000),(1,.iptr (.agg [iv hk,.list 3 es,iv hk]) 0),(2,.iptr (.agg [iv (f : Int)]) 0),(8,iv (n : Int)),(9,iv (i : Int))],[(200000,.num 3500000),(3500000,.log (some 0) (arL n f i (n - i)))],[(200000,none)],10000000⟩) (fun _=>True)
 ·simp -implicitDefEqProofs(maxSteps:=9^7)(disch:=first|exact Yo rfl|omega|(simp only[go_sem]<;>omega)|fail)only[go_sem,norm_eq,Ok.some]
  simp
 ·trivial
 intro i hi _;by_cases h' : i < n
 ·have a1:=ha i h'
  have a2:=hst i h';rw [a2];clear ha hst a2;generalize (f + i) % n = v at *;generalize arL n f (i + 1) (n - (i + 1)) = B at *;have hq : AV.beqL [iv (v : Int)] [iv (v : Int)] = true:=by simp [AV.beqL,AV.beq]
  repeat(first|apply Ya|apply Yb|apply Yc|((first|apply Yd|apply Ye|apply Yf|apply Yg|apply Yh);simp -implicitDefEqProofs(maxSteps:=9^7)(disch:=first|exact Yo rfl|omega|(simp only[go_sem]<;>omega)|fail)only[go_sem,h',Int.ofNat_lt,a1,hln,hq]<;>try with_reducible rfl)|apply Yi|apply Yj|apply Yk|apply Yl|apply Ym|apply Yn)
  apply Ys
  ·simp -implicitDefEqProofs(maxSteps:=9^7)(disch:=first|exact Yo rfl|omega|(simp only[go_sem]<;>omega)|fail)only[go_sem,norm_eq,Ok.some]; with_reducible rfl
  exact ⟨h',by simp,trivial⟩
 ·obtain rfl : i = n:=by omega
  have ez : arL i f i (i - i) = []:=by simp [arL]
  rw [ez];repeat(first|apply Ya|apply Yb|apply Yc|((first|apply Yd|apply Ye|apply Yf|apply Yg|apply Yh);simp -implicitDefEqProofs(maxSteps:=9^7)(disch:=first|exact Yo rfl|omega|(simp only[go_sem]<;>omega)|fail)only[go_sem,h',Int.ofNat_lt]<;>try with_reducible rfl)|apply Yi|apply Yj|apply Yk|apply Yl|apply Ym|apply Yn)
end Go.Abs
set_option linter.all false
namespace Go.Abs
set_option maxRecDepth 10000
set_option maxHeartbeats 4000000
def runV' (n : Nat) (run : Nat → Nat) : List AV:=(List.range n).map fun i=>iv ((run i : Nat) : Int)
@[simp] theorem runV_len (n : Nat) (run : Nat → Nat) : (runV' n run).length = n:=by simp [runV']
theorem runV_get {n : Nat} {run : Nat → Nat} {i : Nat} (h : i < n) : (runV' n run)[i]? = some (iv ((run i : Nat) : Int)):=by
 unfold runV';rw [List.getElem?_map,List.getElem?_range h]; rfl
theorem runV_set {n : Nat} {run : Nat → Nat} {i : Nat} (v : Nat) (h : i < n) : (runV' n run).set i (iv ((v : Nat) : Int)) = runV' n (fun k=>if k = i then v else run k):=by
 apply List.ext_getElem?;intro k;by_cases hk : k < n
 ·rw [runV_get hk]
  by_cases e : i = k
  ·subst e
   rw [List.getElem?_set_self (by simpa using hk),if_pos rfl]
  ·rw [List.getElem?_set_ne e,runV_get hk,if_neg (fun q=>e q.symm)]
 ·rw [List.getElem?_eq_none (by simp; omega),List.getElem?_eq_none (by simp; omega)]
def upTo (num : Nat → Int) (ok : Bool) (p : Nat) (run : Nat → Nat) (k : Nat) : Nat → Nat:=fun i=>if i = p then max (run p) (Mo.bestTo num ok p run k) else run i
theorem stage_le (n f : Nat) (num : Nat → Int) (W : Nat → Bool) : ∀ j i,Mo.stage n f num W j i≤j + 1
 | 0,i => by simp only [Mo.stage]; split <;> omega
 | j + 1,i => by
  rw [Mo.stage];dsimp only;have h1:=stage_le n f num W j i;split
  ·have h2:=(Mo.best_le (num:=num) (ok:=!W i) (p:=i) (run:=Mo.stage n f num W j) (B:=j + 2) n).2 fun k _ _ _ _ => by
    have:=stage_le n f num W j k;omega
   omega
  ·omega
theorem upTo_step {num : Nat → Int} {ok : Bool} {p : Nat} {run : Nat → Nat} {k : Nat} (hc : ¬ (0 < run k∧ok = true∧num k < num p)) : upTo num ok p run (k + 1) = upTo num ok p run k:=by
 funext i;unfold upTo;rw [Mo.bestTo,if_neg hc];split
 ·omega
 ·rfl
theorem upTo_take {num : Nat → Int} {ok : Bool} {p : Nat} {run : Nat → Nat} {k : Nat} (hc : 0 < run k∧ok = true∧num k < num p) : (fun i=>if i = p then max (upTo num ok p run k p) (run k + 1) else upTo num ok p run k i) = upTo num ok p run (k + 1):=by
 funext i;unfold upTo;rw [Mo.bestTo,if_pos hc];by_cases e : i = p
 ·subst e
  simp only [if_true];omega
 ·simp only [e,if_false]
theorem from_ok (l : List Int) (es : List AV) (hV : NumV l es) (hk : Int) (f : Nat) (ks : List Int) (vs : List AV) (W : Nat → Bool) (hW : ∀ i : Nat,kvGet (i : Int) (ks.zip vs) = if W i = true then some (.bool true) else none) (h0 : 0 < l.length) (hl : l.length≤60) (hf : f < l.length) :
  lim F 96 [.agg [iv hk,.list 3 (es),iv hk],iv (f : Int),.mapI .i64 ks vs] = some (iv ((Mo.fromTo l.length f (numAt l) W l.length : Nat) : Int),[]):=by
 have hln:=hV.len;have hA:=around_fun l es hV hk f;have hg:=around_guess l es hV hk f h0 (by omega) hf
 have hc:=around_check l es hV hk f h0 (by omega) hf
 have hnum:=fun i (hi : i < l.length) => hV.get i hi
 generalize hN : numAt l = num at *;generalize l.length = n at *;have hr0 : (List.replicate n (iv 0))[f]? = some (iv 0):=by rw [List.getElem?_replicate,if_pos hf]
 have hr1 : (List.replicate n (iv 0)).set f (iv 1) = runV' n (Mo.stage n f num W 0):=by
  have e : List.replicate n (iv 0) = runV' n (fun _=>0):=by
   apply List.ext_getElem?;intro k;by_cases hk : k < n
   ·rw [runV_get hk,List.getElem?_replicate,if_pos hk]; rfl
   ·rw [List.getElem?_eq_none (by simp; omega),List.getElem?_eq_none (by simp; omega)]
  have h1:=runV_set (n:=n) (run:=fun _=>0) 1 hf
  rw [e];exact h1
 refine Yr (fn:=a96) (k:=3) (res:=[.cell 6 1 false]) rfl rfl rfl (by simp -implicitDefEqProofs(maxSteps:=9^7)(disch:=first|exact Yo rfl|omega|(simp only[go_sem]<;>omega)|fail)only[go_sem]) ?_
 try delta mvA
 try delta opA
 try delta tA
 simp -implicitDefEqProofs(maxSteps:=9^7)(disch:=first|exact Yo rfl|omega|(simp only[go_sem]<;>omega)|fail)only[go_sem]
 repeat(first|apply Ya|apply Yb|apply Yc|((first|apply Yd|apply Ye|apply Yf|apply Yg|apply Yh);simp -implicitDefEqProofs(maxSteps:=9^7)(disch:=first|exact Yo rfl|omega|(simp only[go_sem]<;>omega)|fail)only[go_sem,hln,hA,hr0,hr1,hf,Int.ofNat_lt,Int.toNat_natCast]<;>try with_reducible rfl)|apply Yi|apply Yj|apply Yk|apply Yl|apply Ym|apply Yn)
 refine Wp.rangeF (fun j fr => fr = ⟨[(3,.ptr 192 0 0),(5,.ptr 320 0 0),(6,.ptr 384 0 0),(7,.ptr 448 0 0)],[(192,.box [iv hk,.list 3 es,iv hk]),(320,.box [.mapI .i64 ks vs]),(384,.box [iv ((Mo.fromTo n f num W j : Nat) : Int)]),(448,.box [.slice 307168 0 n]),(307168,.arr 1 (runV' n (Mo.stage n f num W j)))],[],10000000⟩) rfl rfl hg hc ?_ ?_ ?_
 ·simp -implicitDefEqProofs(maxSteps:=9^7)(disch:=first|exact Yo rfl|omega|(simp only[go_sem]<;>omega)|fail)only[go_sem,norm_eq,Ok.some]
  rfl
 ·rintro j x fr hx rfl
  have hj : j < n:=by
   rcases Nat.lt_or_ge j n with h | h
   ·exact h
   ·rw [List.getElem?_eq_none (by simp [arL]; omega)] at hx; cases hx
  have ex : x = [iv (((f + j) % n : Nat) : Int)]:=by
   unfold arL at hx;rw [List.getElem?_map,List.getElem?_range hj] at hx;simp only [Option.map_some,Option.some.injEq,Nat.zero_add] at hx;exact hx.symm
  subst ex;refine ⟨_,rfl,?_⟩;have hp:=Nat.mod_lt (f + j) h0;have hle:=stage_le n f num W j;have hnext : Mo.stage n f num W (j + 1) = upTo num (!W ((f + j) % n)) ((f + j) % n) (Mo.stage n f num W j) n:=by
   funext i;rw [Mo.stage];dsimp only;unfold upTo;by_cases e : i = (f + j) % n
   ·rw [if_pos e,if_pos e,e]
   ·rw [if_neg e,if_neg e]
  have hgot : Mo.got n f num W j = Mo.stage n f num W (j + 1) ((f + j) % n):=rfl;have hfr : Mo.fromTo n f num W (j + 1) = max (Mo.fromTo n f num W j) (Mo.got n f num W j):=rfl;have hWp:=hW ((f + j) % n);obtain ⟨rp,tp,hnp⟩:=hnum _ hp;rw [hnext] at hgot;clear hA hg hc hr0 hr1 hW;generalize hpp : (f + j) % n = p at *;generalize hrun : Mo.stage n f num W j = run at *;generalize Mo.fromTo n f num W j = m at *;have hpu : ∀ v : AV,Eff.pure v = ⟨v,[],[]⟩:=fun v=>id rfl
  have hu0 : upTo num (!W p) p run 0 = run:=by
   funext i;unfold upTo;by_cases e : i = p
   ·rw [if_pos e,e]; simp [Mo.bestTo]
   ·rw [if_neg e]
  have hub : ∀ k i,upTo num (!W p) p run k i≤n + 2:=fun k i => by
   unfold upTo;have h2:=(Mo.best_le (num:=num) (ok:=!W p) (p:=p) (run:=run) (B:=n + 2) k).2 fun i _ _ _ _ => by
    have:=hle i;omega
   have:=hle p;have:=hle i;split <;> omega
  repeat(first|apply Ya|apply Yb|apply Yc|((first|apply Yd|apply Ye|apply Yf|apply Yg|apply Yh);simp -implicitDefEqProofs(maxSteps:=9^7)(disch:=first|exact Yo rfl|omega|(simp only[go_sem]<;>omega)|fail)only[go_sem,hln]<;>try with_reducible rfl)|apply Yi|apply Yj|apply Yk|apply Yl|apply Ym|apply Yn)
  apply Yt n (fun k=>⟨[(3,.ptr 192 0 0),(5,.ptr 320 0 0),(6,.ptr 384 0 0),(7,.ptr 448 0 0),(8,iv (p : Int)),(23,.slice 1472 0 n),(24,iv (n : Int)),(25,iv (k : Int))],[(192,.box [iv hk,.list 3 es,iv hk]),(320,.box [.mapI .i64 ks vs]),(384,.box [iv (m : Int)]),(448,.box [.slice 1472 0 n]),(1472,.arr 1 (runV' n (upTo num (!W p) p run k)))],[],10000000⟩) (fun _=>True)
  ·simp -implicitDefEqProofs(maxSteps:=9^7)(disch:=first|exact Yo rfl|omega|(simp only[go_sem]<;>omega)|fail)only[go_sem,norm_eq,Ok.some]
   rw [hu0];rfl
  ·trivial
  intro k hk' _;have hl1:=runV_len n (upTo num (!W p) p run k);by_cases h2 : k < n
  ·have g1:=runV_get (run:=upTo num (!W p) p run k) h2
   have g2:=runV_get (run:=upTo num (!W p) p run k) hp;obtain ⟨rk,tk,g3⟩:=hnum k h2;have b1:=hub k k;have b2:=hub k p;by_cases hw : W p = true
   ·rw [if_pos hw] at hWp
    have hs:=upTo_step (num:=num) (ok:=!W p) (p:=p) (run:=run) (k:=k) (fun h=>by rw [hw] at h; simp at h)
    rw [hs];generalize upTo num (!W p) p run k = R at *;generalize runV' n R = RV at *;by_cases c1 : 0 < R k
    ·repeat(first|apply Ya|apply Yb|apply Yc|((first|apply Yd|apply Ye|apply Yf|apply Yg|apply Yh);simp -implicitDefEqProofs(maxSteps:=9^7)(disch:=first|exact Yo rfl|omega|(simp only[go_sem]<;>omega)|fail)only[go_sem,h2,Int.ofNat_lt,hl1,g1,hWp,hpu,Int.toNat_natCast,show (0 : Int) < (R k : Int) by omega]<;>try with_reducible rfl)|apply Yi|apply Yj|apply Yk|apply Yl|apply Ym|apply Yn)
     apply Ys
     ·simp -implicitDefEqProofs(maxSteps:=9^7)(disch:=first|exact Yo rfl|omega|(simp only[go_sem]<;>omega)|fail)only[go_sem,norm_eq,Ok.some]; with_reducible rfl
     exact ⟨h2,by simp,trivial⟩
    ·have g1' : RV[k]? = some (iv 0):=by rw [g1,show R k = 0 by omega]; rfl
     repeat(first|apply Ya|apply Yb|apply Yc|((first|apply Yd|apply Ye|apply Yf|apply Yg|apply Yh);simp -implicitDefEqProofs(maxSteps:=9^7)(disch:=first|exact Yo rfl|omega|(simp only[go_sem]<;>omega)|fail)only[go_sem,h2,Int.ofNat_lt,hl1,g1',Int.toNat_natCast,Int.lt_irrefl]<;>try with_reducible rfl)|apply Yi|apply Yj|apply Yk|apply Yl|apply Ym|apply Yn)
     apply Ys
     ·simp -implicitDefEqProofs(maxSteps:=9^7)(disch:=first|exact Yo rfl|omega|(simp only[go_sem]<;>omega)|fail)only[go_sem,norm_eq,Ok.some]; with_reducible rfl
     exact ⟨h2,by simp,trivial⟩
   ·rw [if_neg hw] at hWp
    by_cases c3 : num k < num p
    ·have hkp : k ≠ p:=fun e=>by rw [e] at c3; omega
     have hrk : upTo num (!W p) p run k k = run k:=by unfold upTo; rw [if_neg hkp]
     by_cases c1 : 0 < run k
     ·have hs:=upTo_take (num:=num) (ok:=!W p) (p:=p) (run:=run) (k:=k) ⟨c1,by simp [hw],c3⟩
      rw [hrk] at g1 b1;have hset:=runV_set (run:=upTo num (!W p) p run k) (max (upTo num (!W p) p run k p) (run k + 1)) hp;rw [hs] at hset;rw [← hset];clear hs hset hrk hub hu0;generalize upTo num (!W p) p run k = R at *;have hmx : max ((R p : Nat) : Int) (((run k : Nat) : Int) + 1) = ((max (R p) (run k + 1) : Nat) : Int):=by omega
      generalize runV' n R = RV at *;repeat(first|apply Ya|apply Yb|apply Yc|((first|apply Yd|apply Ye|apply Yf|apply Yg|apply Yh);simp -implicitDefEqProofs(maxSteps:=9^7)(disch:=first|exact Yo rfl|omega|(simp only[go_sem]<;>omega)|fail)only[go_sem,h2,hp,Int.ofNat_lt,hl1,g1,g2,g3,hnp,hln,hWp,hpu,c3,hmx,Int.toNat_natCast,show (0 : Int) < (run k : Int) by omega]<;>try with_reducible rfl)|apply Yi|apply Yj|apply Yk|apply Yl|apply Ym|apply Yn)
      apply Ys
      ·simp -implicitDefEqProofs(maxSteps:=9^7)(disch:=first|exact Yo rfl|omega|(simp only[go_sem]<;>omega)|fail)only[go_sem,norm_eq,Ok.some]; with_reducible rfl
      exact ⟨h2,by simp,trivial⟩
     ·have hs:=upTo_step (num:=num) (ok:=!W p) (p:=p) (run:=run) (k:=k) (fun h=>c1 h.1)
      rw [hs];rw [hrk] at g1 b1;generalize upTo num (!W p) p run k = R at *;generalize runV' n R = RV at *;have g1' : RV[k]? = some (iv 0):=by rw [g1,show run k = 0 by omega]; rfl
      repeat(first|apply Ya|apply Yb|apply Yc|((first|apply Yd|apply Ye|apply Yf|apply Yg|apply Yh);simp -implicitDefEqProofs(maxSteps:=9^7)(disch:=first|exact Yo rfl|omega|(simp only[go_sem]<;>omega)|fail)only[go_sem,h2,hp,Int.ofNat_lt,hl1,g1',Int.toNat_natCast,Int.lt_irrefl]<;>try with_reducible rfl)|apply Yi|apply Yj|apply Yk|apply Yl|apply Ym|apply Yn)
      apply Ys
      ·simp -implicitDefEqProofs(maxSteps:=9^7)(disch:=first|exact Yo rfl|omega|(simp only[go_sem]<;>omega)|fail)only[go_sem,norm_eq,Ok.some]; with_reducible rfl
      exact ⟨h2,by simp,trivial⟩
    ·have hs:=upTo_step (num:=num) (ok:=!W p) (p:=p) (run:=run) (k:=k) (fun h=>c3 h.2.2)
     rw [hs];generalize upTo num (!W p) p run k = R at *;generalize runV' n R = RV at *;by_cases c1 : 0 < R k
     ·repeat(first|apply Ya|apply Yb|apply Yc|((first|apply Yd|apply Ye|apply Yf|apply Yg|apply Yh);simp -implicitDefEqProofs(maxSteps:=9^7)(disch:=first|exact Yo rfl|omega|(simp only[go_sem]<;>omega)|fail)only[go_sem,h2,hp,Int.ofNat_lt,hl1,g1,g3,hnp,hln,hWp,hpu,c3,Int.toNat_natCast,show (0 : Int) < (R k : Int) by omega]<;>try with_reducible rfl)|apply Yi|apply Yj|apply Yk|apply Yl|apply Ym|apply Yn)
      apply Ys
      ·simp -implicitDefEqProofs(maxSteps:=9^7)(disch:=first|exact Yo rfl|omega|(simp only[go_sem]<;>omega)|fail)only[go_sem,norm_eq,Ok.some]; with_reducible rfl
      exact ⟨h2,by simp,trivial⟩
     ·have g1' : RV[k]? = some (iv 0):=by rw [g1,show R k = 0 by omega]; rfl
      repeat(first|apply Ya|apply Yb|apply Yc|((first|apply Yd|apply Ye|apply Yf|apply Yg|apply Yh);simp -implicitDefEqProofs(maxSteps:=9^7)(disch:=first|exact Yo rfl|omega|(simp only[go_sem]<;>omega)|fail)only[go_sem,h2,hp,Int.ofNat_lt,hl1,g1',Int.toNat_natCast,Int.lt_irrefl]<;>try with_reducible rfl)|apply Yi|apply Yj|apply Yk|apply Yl|apply Ym|apply Yn)
      apply Ys
      ·simp -implicitDefEqProofs(maxSteps:=9^7)(disch:=first|exact Yo rfl|omega|(simp only[go_sem]<;>omega)|fail)only[go_sem,norm_eq,Ok.some]; with_reducible rfl
      exact ⟨h2,by simp,trivial⟩
  ·obtain rfl : k = n:=by omega
   have g2:=runV_get (run:=upTo num (!W p) p run k) hp;have b2:=hub k p;rw [hfr,hgot,hnext];generalize upTo num (!W p) p run k = R at *;have hmx : max ((m : Nat) : Int) ((R p : Nat) : Int) = ((max m (R p) : Nat) : Int):=by omega
   generalize runV' k R = RV at *;repeat(first|apply Ya|apply Yb|apply Yc|((first|apply Yd|apply Ye|apply Yf|apply Yg|apply Yh);simp -implicitDefEqProofs(maxSteps:=9^7)(disch:=first|exact Yo rfl|omega|(simp only[go_sem]<;>omega)|fail)only[go_sem,h2,hp,Int.ofNat_lt,hl1,g2,hmx,Int.toNat_natCast]<;>try with_reducible rfl)|apply Yi|apply Yj|apply Yk|apply Yl|apply Ym|apply Yn)
   apply block_norm;apply Ys
   ·simp -implicitDefEqProofs(maxSteps:=9^7)(disch:=first|exact Yo rfl|omega|(simp only[go_sem]<;>omega)|fail)only[go_sem,norm_eq,Ok.some]; with_reducible rfl
   rfl
 ·rintro fr rfl
  rw [show (arL n f 0 n).length = n by simp [arL]]
  apply block_norm;repeat(first|apply Ya|apply Yb|apply Yc|((first|apply Yd|apply Ye|apply Yf|apply Yg|apply Yh);simp -implicitDefEqProofs(maxSteps:=9^7)(disch:=first|exact Yo rfl|omega|(simp only[go_sem]<;>omega)|fail)only[go_sem]<;>try with_reducible rfl)|apply Yi|apply Yj|apply Yk|apply Yl|apply Ym|apply Yn)
end Go.Abs
set_option linter.all false
namespace Go.Abs
set_option maxRecDepth 10000
set_option maxHeartbeats 4000000
theorem got_le (n f : Nat) (num : Nat → Int) (W : Nat → Bool) (i : Nat) (hi : i < n) : Mo.got n f num W i≤n + 1:=by
 have:=stage_le n f num W (i + 1) ((f + i) % n);unfold Mo.got;omega
theorem fromTo_le (n f : Nat) (num : Nat → Int) (W : Nat → Bool) : Mo.fromTo n f num W n≤n + 1:=(Mo.from_le n).2 fun i hi => got_le n f num W i hi
theorem keptTo_le (n : Nat) (num : Nat → Int) (W : Nat → Bool) (k : Nat) : Mo.keptTo n num W k≤n + 1:=(Mo.kept_le k).2 fun f _ _ => fromTo_le n f num W
theorem kept_ok (l : List Int) (es : List AV) (hV : NumV l es) (hk : Int) (ks : List Int) (vs : List AV) (W : Nat → Bool) (hW : ∀ i : Nat,kvGet (i : Int) (ks.zip vs) = if W i = true then some (.bool true) else none) (h0 : 0 < l.length) (hl : l.length≤60) :
  lim F 59 [.agg [iv hk,.list 3 (es),iv hk],.mapI .i64 ks vs] = some (iv ((Mo.keptTo l.length (numAt l) W l.length : Nat) : Int),[]):=by
 have hln:=hV.len;have hF:=fun f hf => from_ok l es hV hk f ks vs W hW h0 hl hf
 have hb:=fromTo_le l.length;have hb2:=keptTo_le l.length;have hpu : ∀ v : AV,Eff.pure v = ⟨v,[],[]⟩:=fun v=>id rfl
 generalize numAt l = num at *;generalize l.length = n at *;refine Yr (fn:=a59) (k:=2) (res:=[.tmp 4]) rfl rfl rfl (by simp -implicitDefEqProofs(maxSteps:=9^7)(disch:=first|exact Yo rfl|omega|(simp only[go_sem]<;>omega)|fail)only[go_sem]) ?_
 try delta mvA
 try delta opA
 try delta tA
 simp -implicitDefEqProofs(maxSteps:=9^7)(disch:=first|exact Yo rfl|omega|(simp only[go_sem]<;>omega)|fail)only[go_sem]
 repeat(first|apply Ya|apply Yb|apply Yc|((first|apply Yd|apply Ye|apply Yf|apply Yg|apply Yh);simp -implicitDefEqProofs(maxSteps:=9^7)(disch:=first|exact Yo rfl|omega|(simp only[go_sem]<;>omega)|fail)only[go_sem,hln]<;>try with_reducible rfl)|apply Yi|apply Yj|apply Yk|apply Yl|apply Ym|apply Yn)
 apply Yt n (fun f=>⟨[(1,.mapI .i64 ks vs),(2,.ptr 128 0 0),(4,iv ((Mo.keptTo n num W f : Nat) : Int)),(9,iv (n : Int)),(10,iv (f : Int))],[(128,.box [iv hk,.list 3 es,iv hk])],[],10000000⟩) (fun _=>True)
 ·simp -implicitDefEqProofs(maxSteps:=9^7)(disch:=first|exact Yo rfl|omega|(simp only[go_sem]<;>omega)|fail)only[go_sem,norm_eq,Ok.some]
  rfl
 ·trivial
 intro f hf _;by_cases h' : f < n
 ·have a1:=hF f h'
  have a2:=hW f;have a3:=hb f num W;have a4:=hb2 num W f;have hs : Mo.keptTo n num W (f + 1) = if W f = false then max (Mo.keptTo n num W f) (Mo.fromTo n f num W n) else Mo.keptTo n num W f:=rfl
  rw [hs];clear hF hW hb hb2 hs;generalize Mo.keptTo n num W f = m at *;generalize Mo.fromTo n f num W n = v at *;by_cases hw : W f = true
  ·rw [if_pos hw] at a2
   rw [if_neg (by simp [hw])]
   repeat(first|apply Ya|apply Yb|apply Yc|((first|apply Yd|apply Ye|apply Yf|apply Yg|apply Yh);simp -implicitDefEqProofs(maxSteps:=9^7)(disch:=first|exact Yo rfl|omega|(simp only[go_sem]<;>omega)|fail)only[go_sem,h',Int.ofNat_lt,a2,hpu]<;>try with_reducible rfl)|apply Yi|apply Yj|apply Yk|apply Yl|apply Ym|apply Yn)
   apply Ys
   ·simp -implicitDefEqProofs(maxSteps:=9^7)(disch:=first|exact Yo rfl|omega|(simp only[go_sem]<;>omega)|fail)only[go_sem,norm_eq,Ok.some]; with_reducible rfl
   exact ⟨h',by simp,trivial⟩
  ·rw [if_neg hw] at a2
   rw [if_pos (by simpa using hw)]
   have hmx : max ((m : Nat) : Int) ((v : Nat) : Int) = ((max m v : Nat) : Int):=by omega
   repeat(first|apply Ya|apply Yb|apply Yc|((first|apply Yd|apply Ye|apply Yf|apply Yg|apply Yh);simp -implicitDefEqProofs(maxSteps:=9^7)(disch:=first|exact Yo rfl|omega|(simp only[go_sem]<;>omega)|fail)only[go_sem,h',Int.ofNat_lt,a2,hpu,a1,hmx]<;>try with_reducible rfl)|apply Yi|apply Yj|apply Yk|apply Yl|apply Ym|apply Yn)
   apply Ys
   ·simp -implicitDefEqProofs(maxSteps:=9^7)(disch:=first|exact Yo rfl|omega|(simp only[go_sem]<;>omega)|fail)only[go_sem,norm_eq,Ok.some]; with_reducible rfl
   exact ⟨h',by simp,trivial⟩
 ·obtain rfl : f = n:=by omega
  repeat(first|apply Ya|apply Yb|apply Yc|((first|apply Yd|apply Ye|apply Yf|apply Yg|apply Yh);simp -implicitDefEqProofs(maxSteps:=9^7)(disch:=first|exact Yo rfl|omega|(simp only[go_sem]<;>omega)|fail)only[go_sem,h',Int.ofNat_lt]<;>try with_reducible rfl)|apply Yi|apply Yj|apply Yk|apply Yl|apply Ym|apply Yn)
end Go.Abs
set_option linter.all false
namespace Go.Abs
set_option maxRecDepth 10000
set_option maxHeartbeats 4000000
theorem kvGet_setO (x k : Int) (v : AV) : ∀ kv,kvGet x (kvSet k v kv) = if k = x then some v else kvGet x kv
 | [] => by simp [kvSet,kvGet]
 | (j,u) :: r => by
  unfold kvSet;by_cases h : j = k
  ·subst h
   by_cases h2 : j = x
   ·simp [kvGet,h2]
   ·simp [kvGet,h2]
  ·rw [if_neg h]
   simp only [kvGet];rw [kvGet_setO x k v r];by_cases h2 : j = x
   ·have : ¬ k = x:=fun e=>h (h2.trans e.symm)
    simp [h2,this]
   ·simp [h2]
theorem kvSet_lenO (k : Int) (v : AV) : ∀ kv,kvGet k kv = none → (kvSet k v kv).length = kv.length + 1
 | [],_ => rfl
 | (j,u) :: r,h => by
  unfold kvSet;by_cases e : j = k
  ·subst e; simp [kvGet] at h
  ·rw [if_neg e]
   simp only [kvGet,if_neg e] at h;rw [List.length_cons,kvSet_lenO k v r h,List.length_cons]
theorem numbered_ok (l : List Int) (es : List AV) (hV : NumV l es) (hk : Int) (h0 : 0 < l.length) (hl : l.length≤60) (hnd : l.Nodup) (hpos : ∀ n ∈ l,0≤n)
  (hOp : lim F 95 [.agg [iv hk,.list 3 (es)]] = some (.tuple [.agg [iv hk,.list 3 (es),iv hk],iv 0],[])) :
  lim F 58 [.agg [iv hk,.list 3 (es)]] = some (.tuple [.agg [iv hk,.list 3 (es),iv hk],iv 0],[]):=by
 have hln:=hV.len;have hg:=fun i (hi : i < l.length) => hV.get i hi
 have hpu : ∀ v : AV,Eff.pure v = ⟨v,[],[]⟩:=fun v=>id rfl
 have hmo : (Value.map none).oneCell' = true:=rfl;generalize hn : l.length = n at *;refine Yr (fn:=a58) (k:=1) (res:=[.cell 2 3 true,.tmp 3]) rfl rfl rfl (by simp -implicitDefEqProofs(maxSteps:=9^7)(disch:=first|exact Yo rfl|omega|(simp only[go_sem]<;>omega)|fail)only[go_sem]) ?_
 try delta mvA
 try delta opA
 try delta tA
 simp -implicitDefEqProofs(maxSteps:=9^7)(disch:=first|exact Yo rfl|omega|(simp only[go_sem]<;>omega)|fail)only[go_sem]
 repeat(first|apply Ya|apply Yb|apply Yc|((first|apply Yd|apply Ye|apply Yf|apply Yg|apply Yh);simp -implicitDefEqProofs(maxSteps:=9^7)(disch:=first|exact Yo rfl|omega|(simp only[go_sem]<;>omega)|fail)only[go_sem,hOp,hmo,hln]<;>try with_reducible rfl)|apply Yi|apply Yj|apply Yk|apply Yl|apply Ym|apply Yn)
 apply Yu n (fun i fr => ∃ kv,fr = ⟨[(1,.ptr 64 0 0),(2,.ptr 128 0 0),(4,.ptr 256 0 0),(6,.mapp 384),(20,.list 3 es),(21,iv (n : Int)),(22,iv (i : Int))],[(64,.box [iv hk,.list 3 es]),(128,.box [iv 0,.slice 302049 0 0,iv 0]),(256,.box [iv hk,.list 3 es,iv hk]),(384,.mp .i64 kv),(302049,.arr 3 [])],[],10000000⟩∧kv.length = i∧∀ x : Int,kvGet x kv = if x ∈ l.take i then some (.bool true) else none)
 ·simp -implicitDefEqProofs(maxSteps:=9^7)(disch:=first|exact Yo rfl|omega|(simp only[go_sem]<;>omega)|fail)only[go_sem,norm_eq,Ok.some]
  exact ⟨[],rfl,rfl,fun x=>by simp [kvGet]⟩
 rintro i fr hi ⟨kv,rfl,hkl,hkv⟩;by_cases h' : i < n
 ·obtain ⟨rj,tj,a1⟩:=hg i h'
  have e0 : l.take (i + 1) = l.take i ++ [numAt l i]:=by
   unfold numAt;rw [List.take_succ_eq_append_getElem (by omega),List.getD_eq_getElem?_getD,List.getElem?_eq_getElem (by omega)]; rfl
  have hni : numAt l i ∉ l.take i:=fun hm=>by
   have h2 : (l.take (i + 1)).Nodup:=List.Sublist.nodup (List.take_sublist _ _) hnd;rw [e0,List.nodup_append] at h2;exact h2.2.2 _ hm _ (by simp) rfl
  have k0:=hkv (numAt l i);rw [if_neg hni] at k0;have k1:=kvSet_lenO (numAt l i) (.bool true) kv k0;generalize numAt l i = v at *;have k2 : ∀ x : Int,kvGet x (kvSet v (.bool true) kv) = if x ∈ l.take (i + 1) then some (.bool true) else none:=fun x=>by
   rw [kvGet_setO,hkv x,e0];by_cases c : v = x
   ·rw [if_pos c,if_pos (by simp [c])]
   ·have c' : ¬ x = v:=fun q=>c q.symm
    rw [if_neg c];simp [c']
  repeat(first|apply Ya|apply Yb|apply Yc|((first|apply Yd|apply Ye|apply Yf|apply Yg|apply Yh);simp -implicitDefEqProofs(maxSteps:=9^7)(disch:=first|exact Yo rfl|omega|(simp only[go_sem]<;>omega)|fail)only[go_sem,h',Int.ofNat_lt,a1,hln,Int.toNat_natCast]<;>try with_reducible rfl)|apply Yi|apply Yj|apply Yk|apply Yl|apply Ym|apply Yn)
  apply Ys
  ·simp -implicitDefEqProofs(maxSteps:=9^7)(disch:=first|exact Yo rfl|omega|(simp only[go_sem]<;>omega)|fail)only[go_sem,norm_eq,Ok.some]; with_reducible rfl
  refine ⟨h',_,?_,by rw [k1,hkl],k2⟩
  simp
 ·obtain rfl : i = n:=by omega
  have b1:=hkv (-1);rw [if_neg (fun hm=>by have:=hpos _ (List.mem_of_mem_take hm); omega)] at b1
  repeat(first|apply Ya|apply Yb|apply Yc|((first|apply Yd|apply Ye|apply Yf|apply Yg|apply Yh);simp -implicitDefEqProofs(maxSteps:=9^7)(disch:=first|exact Yo rfl|omega|(simp only[go_sem]<;>omega)|fail)only[go_sem,h',Int.ofNat_lt,hln,b1,hkl,hpu,show ¬ (i : Int) < (i : Int) by omega]<;>try with_reducible rfl)|apply Yi|apply Yj|apply Yk|apply Yl|apply Ym|apply Yn)
end Go.Abs
set_option linter.all false
namespace Go.Abs
set_option maxRecDepth 10000
set_option maxHeartbeats 4000000
theorem kvDel_new (k : Int) (v : AV) : ∀ kv,kvGet k kv = none → kvDel k (kvSet k v kv) = kv
 | [],_ => by simp [kvSet,kvDel]
 | (j,u) :: r,h => by
  by_cases e : j = k
  ·subst e; simp [kvGet] at h
  ·simp only [kvGet,if_neg e] at h
   have:=kvDel_new k v r h;unfold kvSet;rw [if_neg e];simp only [kvDel,if_neg e,this]
theorem zip_kv : ∀ kv : List (Int × AV),(kv.map (·.1)).zip (kv.map (·.2)) = kv
 | [] => rfl
 | x :: r => by
  rw [List.map_cons,List.map_cons,List.zip_cons_cons,zip_kv r]
theorem Moved_ok (l : List Int) (es : List AV) (hV : NumV l es) (hk : Int) (h0 : 0 < l.length) (hl : l.length≤60) (hnd : l.Nodup) (hpos : ∀ n ∈ l,0≤n)
  (hOp : lim F 95 [.agg [iv hk,.list 3 (es)]] = some (.tuple [.agg [iv hk,.list 3 (es),iv hk],iv 0],[])) :
  ∃ q,lim F 26 [.agg [iv hk,.list 3 (es)]] = some q∧∃ ms,q = (.tuple [.own 1 (natsV ms),iv 0],[])∧Mo.MovOk l.length (numAt l) ms:=by
 have hln:=hV.len;have hNu:=numbered_ok l es hV hk h0 hl hnd hpos hOp;have hK : ∀ (kv : List (Int × AV)) (ms : List Nat),(∀ i : Nat,kvGet (i : Int) kv = if Mo.inL ms i = true then some (.bool true) else none) → lim F 59 [.agg [iv hk,.list 3 (es),iv hk],.mapI .i64 (kv.map (·.1)) (kv.map (·.2))] = some (iv ((Mo.keptTo l.length (numAt l) (Mo.inL ms) l.length : Nat) : Int),[]):=fun kv ms hkv =>
  kept_ok l es hV hk _ _ (Mo.inL ms) (fun i=>by rw [zip_kv]; exact hkv i) h0 hl
 have hb:=fun W=>keptTo_le l.length (numAt l) W l.length
 generalize numAt l = num at *;generalize l.length = n at *;clear hnd hpos hOp;have hz:=Mo.MovTo.zero n num;have hK0:=hK [] [] fun i=>by simp [kvGet,Mo.inL]
 rw [hz.same] at hK0;simp only [List.map_nil] at hK0;have hM:=hb fun _=>false
 have hMn:=@Mo.kept_stay n num fun _=>false
 have hmo : (Value.map none).oneCell' = true:=rfl;generalize hMM : Mo.keptTo n num (fun _=>false) n = M at *
 refine lim_ex (fn:=a26) (k:=1) (res:=[.tmp 2,.tmp 3]) rfl rfl rfl (by simp -implicitDefEqProofs(maxSteps:=9^7)(disch:=first|exact Yo rfl|omega|(simp only[go_sem]<;>omega)|fail)only[go_sem]) ?_
 try delta mvA
 try delta opA
 try delta tA
 simp -implicitDefEqProofs(maxSteps:=9^7)(disch:=first|exact Yo rfl|omega|(simp only[go_sem]<;>omega)|fail)only[go_sem]
 repeat(first|apply Ya|apply Yb|apply Yc|((first|apply Yd|apply Ye|apply Yf|apply Yg|apply Yh);simp -implicitDefEqProofs(maxSteps:=9^7)(disch:=first|exact Yo rfl|omega|(simp only[go_sem]<;>omega)|fail)only[go_sem,hNu,hmo,hK0,hln]<;>try with_reducible rfl)|apply Yi|apply Yj|apply Yk|apply Yl|apply Ym|apply Yn)
 apply Yu n (fun i fr => ∃ kv ms,fr = ⟨[(1,.ptr 64 0 0),(2,.slice 128 0 (ms.length)),(4,.ptr 256 0 0),(5,.mapp 320),(6,iv (M : Int)),(22,iv (n : Int)),(23,iv (i : Int))],[(64,.box [iv hk,.list 3 es]),(128,.arr 1 (natsV ms)),(256,.box [iv hk,.list 3 es,iv hk]),(320,.mp .i64 kv)],[],10000000⟩∧Mo.MovTo n num i ms∧∀ i : Nat,kvGet (i : Int) kv = if Mo.inL ms i = true then some (.bool true) else none)
 ·simp -implicitDefEqProofs(maxSteps:=9^7)(disch:=first|exact Yo rfl|omega|(simp only[go_sem]<;>omega)|fail)only[go_sem,norm_eq,Ok.some]
  exact ⟨[],[],rfl,hz,fun i=>by simp [kvGet,Mo.inL]⟩
 rintro i fr hi ⟨kv,ms,rfl,hm,hkv⟩;have n1 : (natsV ms).length = ms.length:=by simp
 have t1 : (natsV ms).take ms.length = natsV ms:=List.take_of_length_le (by omega)
 have le1:=hm.len hi;by_cases h' : i < n
 ·have k0:=hkv i
  rw [hm.not_in,if_neg (by simp)] at k0
  have k1:=kvDel_new (i : Int) (.bool true) kv k0;have k2 : ∀ j : Nat,kvGet (j : Int) (kvSet (i : Int) (.bool true) kv) = if Mo.inL (ms ++ [i]) j = true then some (.bool true) else none:=fun j=>by
   rw [kvGet_setO,hkv j,Mo.inL_snoc];unfold Mo.more;by_cases c : (i : Int) = (j : Int)
   ·rw [if_pos c,if_pos (show j = i by omega)]; simp
   ·rw [if_neg c,if_neg (show ¬ j = i by omega)]
  have k3:=hK _ _ k2;have b1:=hb (Mo.inL (ms ++ [i]));by_cases c : Mo.keptTo n num (Mo.inL (ms ++ [i])) n < M
  ·have m2:=hm.leave (by rw [hMM]; exact c)
   generalize Mo.keptTo n num (Mo.inL (ms ++ [i])) n = v at *;repeat(first|apply Ya|apply Yb|apply Yc|((first|apply Yd|apply Ye|apply Yf|apply Yg|apply Yh);simp -implicitDefEqProofs(maxSteps:=9^7)(disch:=first|exact Yo rfl|omega|(simp only[go_sem]<;>omega)|fail)only[go_sem,h',Int.ofNat_lt,k3,c,k1]<;>try with_reducible rfl)|apply Yi|apply Yj|apply Yk|apply Yl|apply Ym|apply Yn)
   apply Ys
   ·simp -implicitDefEqProofs(maxSteps:=9^7)(disch:=first|exact Yo rfl|omega|(simp only[go_sem]<;>omega)|fail)only[go_sem,norm_eq,Ok.some]; with_reducible rfl
   refine ⟨h',kv,ms,?_,m2,hkv⟩;simp
  ·have m2:=hm.take (by rw [hMM]; exact c)
   have s2 : natsV (ms ++ [i]) = natsV ms ++ [iv (i : Int)]:=by unfold natsV; rw [List.map_append]; rfl
   generalize Mo.keptTo n num (Mo.inL (ms ++ [i])) n = v at *;have b2 : M≤n:=by have:=hMn; have:=(Mo.stay_count (n:=n) (l:=ms) hm.asc fun i hi => by have:=hm.lt i hi; omega); have h9:=List.length_filter_le (fun i=>!(fun _ : Nat => false) i) (List.range n); rw [List.length_range] at h9; unfold Mo.stay at hMn; omega
   by_cases c2 : ms.length + 1 + M = n
   ·have m3:=m2.full h' (by rw [hMM,List.length_append]; simpa using c2)
    have c3 : ((ms.length + 1 : Nat) : Int) + (M : Int) = (n : Int):=by omega
    have p3:=nat_plain (ms ++ [i]);have q3 : (natsV ms ++ [iv (i : Int)]).length = ms.length + 1:=by simp
    have q4 : (natsV ms ++ [iv (i : Int)]).take (ms.length + 1) = natsV ms ++ [iv (i : Int)]:=List.take_of_length_le (by simp)
    rw [← natsV,s2] at p3;repeat(first|apply Ya|apply Yb|apply Yc|((first|apply Yd|apply Ye|apply Yf|apply Yg|apply Yh);simp -implicitDefEqProofs(maxSteps:=9^7)(disch:=first|exact Yo rfl|omega|(simp only[go_sem]<;>omega)|fail)only[go_sem,h',Int.ofNat_lt,k3,c,n1,t1,hln,c3]<;>try with_reducible rfl)|apply Yi|apply Yj|apply Yk|apply Yl|apply Ym|apply Yn)
    refine finp_ret (r:=(.tuple [.own 1 (natsV (ms ++ [i])),iv 0],[])) ?_ ⟨_,rfl,m3⟩;rw [s2];generalize natsV ms = RV at *;simp -implicitDefEqProofs(maxSteps:=9^7)(disch:=first|exact Yo rfl|omega|(simp only[go_sem]<;>omega)|fail)only[go_sem,q3,q4,p3]
   ·have c3 : ¬ ((ms.length + 1 : Nat) : Int) + (M : Int) = (n : Int):=by omega
    repeat(first|apply Ya|apply Yb|apply Yc|((first|apply Yd|apply Ye|apply Yf|apply Yg|apply Yh);simp -implicitDefEqProofs(maxSteps:=9^7)(disch:=first|exact Yo rfl|omega|(simp only[go_sem]<;>omega)|fail)only[go_sem,h',Int.ofNat_lt,k3,c,n1,t1,hln,c3]<;>try with_reducible rfl)|apply Yi|apply Yj|apply Yk|apply Yl|apply Ym|apply Yn)
    apply Ys
    ·simp -implicitDefEqProofs(maxSteps:=9^7)(disch:=first|exact Yo rfl|omega|(simp only[go_sem]<;>omega)|fail)only[go_sem,norm_eq,Ok.some]; with_reducible rfl
    refine ⟨h',_,ms ++ [i],?_,m2,k2⟩;rw [s2];simp
 ·obtain rfl : i = n:=by omega
  repeat(first|apply Ya|apply Yb|apply Yc|((first|apply Yd|apply Ye|apply Yf|apply Yg|apply Yh);simp -implicitDefEqProofs(maxSteps:=9^7)(disch:=first|exact Yo rfl|omega|(simp only[go_sem]<;>omega)|fail)only[go_sem,h',Int.ofNat_lt,n1]<;>try with_reducible rfl)|apply Yi|apply Yj|apply Yk|apply Yl|apply Ym|apply Yn)
  refine finp_ret (r:=(.tuple [.own 1 (natsV ms),iv 0],[])) ?_ ⟨ms,rfl,hm.end h0⟩;have p3:=nat_plain ms;generalize natsV ms = RV at *;simp -implicitDefEqProofs(maxSteps:=9^7)(disch:=first|exact Yo rfl|omega|(simp only[go_sem]<;>omega)|fail)only[go_sem,n1,t1,p3]
end Go.Abs
