/-
 Several texts: LO, LC3, KS5, KnSh.
-/
import Derived.Test.YtlcikiobkmajbaaLN
import Derived.Test.YtlcikiobkmajbaaLC2
import Derived.Test.YtlcikiobkmajbaaMemo
import Derived.KernelRfl
set_option linter.all false
namespace Go.Abs.Lo
def minTo (m : MillA) (f : FixA) (loom b a : Nat) (T : Nat → Int) : Nat → Int
 | 0 => never
 | k + 1 => if b.testBit k = true∧T k < never then min (minTo m f loom b a T k) (beg m f a loom (T k + chg m k a)) else minTo m f loom b a T k
def rdyT (m : MillA) (f : FixA) (loom : Nat) : Nat → Nat → Nat → Int
 | 0,_,_ => never
 | n + 1,s,a => if s.testBit a = true then
   let b:=andN s (2 ^ a)
   let d:=if b = 0 then beg m f a loom 0 else minTo m f loom b a (rdyT m f loom n b) m.os.length
   if d < never then d + (m.o a).v else never
  else never
def canB (m : MillA) (f : FixA) (loom s : Nat) : Bool:=s == 0 || (List.range m.os.length).any fun a=>decide (rdyT m f loom (s + 1) s a < never)
theorem rdyT_more {m : MillA} {f : FixA} {loom : Nat} : ∀ n n' s,s < 2 ^ 7 → s < n → s < n' → rdyT m f loom n s = rdyT m f loom n' s:=by
 intro n;induction n with
 | zero => intro n' s _ h; omega
 | succ n ih =>
  intro n' s h7 h h';obtain ⟨k,rfl⟩ : ∃ k,n' = k + 1:=⟨n' - 1,by omega⟩
  funext a;unfold rdyT;by_cases hb : s.testBit a = true
  ·have hlt:=andN_lt (i:=a) (small h7) hb
   rw [if_pos hb,if_pos hb];dsimp only;rw [ih k (andN s (2 ^ a)) (by omega) (by omega) (by omega)]
  ·rw [if_neg hb,if_neg hb]
theorem minTo_spec (m : MillA) (f : FixA) (loom b a : Nat) (T : Nat → Int) : ∀ n,(minTo m f loom b a T n = never ∨ ∃ k,k < n∧b.testBit k = true∧T k < never∧minTo m f loom b a T n = beg m f a loom (T k + chg m k a)) ∧
  ∀ k,k < n → b.testBit k = true → T k < never → minTo m f loom b a T n≤beg m f a loom (T k + chg m k a)
 | 0 => ⟨.inl rfl,fun k h => by omega⟩
 | n + 1 => by
  obtain ⟨h1,h2⟩:=minTo_spec m f loom b a T n;unfold minTo;by_cases c : b.testBit n = true∧T n < never
  ·rw [if_pos c]
   constructor
   ·by_cases e : minTo m f loom b a T n≤beg m f a loom (T n + chg m n a)
    ·rw [Int.min_eq_left e]
     rcases h1 with h1 | ⟨k,g1,g2⟩
     ·exact .inl h1
     ·exact .inr ⟨k,by omega,g2⟩
    ·rw [Int.min_eq_right (by omega)]
     exact .inr ⟨n,by omega,c.1,c.2,rfl⟩
   ·intro k hk g1 g2
    by_cases e : k = n
    ·subst e; omega
    ·have:=h2 k (by omega) g1 g2; omega
  ·rw [if_neg c]
   constructor
   ·rcases h1 with h1 | ⟨k,g1,g2⟩
    ·exact .inl h1
    ·exact .inr ⟨k,by omega,g2⟩
   ·intro k hk g1 g2
    by_cases e : k = n
    ·subst e; exact absurd ⟨g1,g2⟩ c
    ·exact h2 k (by omega) g1 g2
theorem rdyT_entry {m : MillA} {f : FixA} {loom : Nat} {s a : Nat} (h7 : s < 2 ^ 7) : Entry m f loom (fun s=>rdyT m f loom (s + 1) s) s a:=by
 refine ⟨fun hb=>?_,fun hb=>?_⟩
 ·show rdyT m f loom (s + 1) s a = never
  unfold rdyT;rw [if_neg (by simp [hb])]
 ·have hlt:=andN_lt (i:=a) (small h7) hb
  have e:=rdyT_more (m:=m) (f:=f) (loom:=loom) s (andN s (2 ^ a) + 1) (andN s (2 ^ a)) (by omega) (by omega) (by omega)
  refine ⟨if andN s (2 ^ a) = 0 then beg m f a loom 0 else minTo m f loom (andN s (2 ^ a)) a (rdyT m f loom s (andN s (2 ^ a))) m.os.length,⟨fun h0=>by rw [if_pos h0],fun h0=>?_⟩,?_⟩
  ·rw [if_neg h0,e]
   exact minTo_spec m f loom (andN s (2 ^ a)) a (rdyT m f loom (andN s (2 ^ a) + 1) (andN s (2 ^ a))) m.os.length
  ·show rdyT m f loom (s + 1) s a = _
   rw [rdyT,if_pos hb]
theorem canB_iff {m : MillA} (hm : m.Ok) {f : FixA} {loom s : Nat} (h7 : s < 2 ^ 7) : canB m f loom s = true ↔ canP m f loom s:=by
 unfold canB canP;rw [Bool.or_eq_true,beq_iff_eq,List.any_eq_true];by_cases h0 : s = 0
 ·simp [h0]
 ·have ht:=table_ok hm (f:=f) (loom:=loom) (T:=fun s=>rdyT m f loom (s + 1) s) s (by omega) h7 fun s' h1 h2 a ha => rdyT_entry (by omega)
  constructor
  ·rintro (h | ⟨a,h1,h2⟩)
   ·exact .inl h
   ·have:=(ht a (List.mem_range.1 h1)).1 (of_decide_eq_true h2)
    exact .inr ⟨a,_,this⟩
  ·rintro (h | ⟨a,t,h1⟩)
   ·exact .inl h
   ·have h2:=(ht a h1.lt).2 t h1
    have h3:=h1.in
    have h4:=(hm.o h1.lt).t1;exact .inr ⟨a,List.mem_range.2 h1.lt,decide_eq_true (by unfold never at *; omega)⟩
end Go.Abs.Lo
set_option linter.all false
namespace Go.Abs
set_option maxRecDepth 10000
set_option maxHeartbeats 4000000
open Go.Abs.Lo (OrdA MillA FixA canP canB Tog loomsR)
def togB (m : MillA) (f : FixA) : Nat → Nat → Bool
 | 0,s => s == 0
 | k + 1,s => (subL s s).any fun p=>canB m f k p && togB m f k (andN s p)
theorem togB_iff {m : MillA} (hm : m.Ok) {f : FixA} : ∀ k s,s < 64 → (togB m f k s = true ↔ Tog m f (loomsR k) s)
 | 0,s,_ => by
  unfold togB loomsR Tog;simp
 | k + 1,s,hs => by
  have h:=nxF_tog (m:=m) (f:=f) (ls:=loomsR k) (loom:=k) (N:=64) (c:=canB m f k) (al:=togB m f k) (by omega) (fun s h => Lo.canB_iff hm (by omega)) (fun s h => togB_iff hm k s h) s hs
  have e : nxF (canB m f k) (togB m f k) 64 [] s = togB m f (k + 1) s:=by
   unfold nxF;rw [if_pos hs];rfl
  rw [← e];exact h
theorem together_val (m : MillA) (hm : m.Ok) {fv : AV} {f : FixA} (hf : FixV fv f) (hr : ∀ o r,f o = some r → 0≤r.2∧r.2≤1000) :
  lim F 37 [millV m,.list 1 (natsV (List.range m.ws.length)),fv] = some (.own 1 (boolsV (togB m f m.ws.length) (2 ^ m.os.length)),[]):=by
 obtain ⟨q,h,c,rfl,hc⟩:=together_ok m hm hf hr;have n6:=hm.n6;have hp2 : 2 ^ m.os.length≤2 ^ 6:=Nat.pow_le_pow_right (by omega) n6
 have e : boolsV c (2 ^ m.os.length) = boolsV (togB m f m.ws.length) (2 ^ m.os.length):=by
  unfold boolsV;apply List.map_congr_left;intro s hs;have hs:=List.mem_range.1 hs;have h1:=hc s hs;have h2:=togB_iff hm (f:=f) m.ws.length s (by omega)
  have : c s = togB m f m.ws.length s:=by
   rw [Bool.eq_iff_iff,h1,h2]
  rw [this]
 rw [h,e]
def fR (rs : List (Nat × Nat × Int)) : FixA:=fun o=>(rs.find? fun r=>r.1 == o).map (·.2)
def ksR (rs : List (Nat × Nat × Int)) : List Int:=rs.map fun r=>(r.1 : Int)
def vsR (rs : List (Nat × Nat × Int)) : List AV:=rs.map fun r=>lrunV r.1 r.2
theorem fixR : ∀ rs : List (Nat × Nat × Int),FixV (.mapI .i64 (ksR rs) (vsR rs)) (fR rs):=fun rs=>.some _ _ _ fun o=>by
 induction rs with
 | nil => rfl
 | cons r rs ih =>
  unfold ksR vsR fR at *;simp only [List.map_cons,List.zip_cons_cons,kvGet,List.find?_cons];by_cases h : r.1 = o
  ·subst h
   simp
  ·have h1 : ¬ (r.1 : Int) = (o : Int):=by omega
   have h2 : (r.1 == o) = false:=by simpa using h
   rw [if_neg h1,h2,ih]
theorem fR_in {rs : List (Nat × Nat × Int)} (h : rs.all (fun x=>decide (0≤x.2.2) && decide (x.2.2≤1000)) = true) : ∀ o r,fR rs o = some r → 0≤r.2∧r.2≤1000:=fun o r hr => by
 unfold fR at hr;cases hf : rs.find? fun r=>r.1 == o with
 | none => rw [hf] at hr; cases hr
 | some x =>
  rw [hf] at hr;cases hr;have:=List.all_eq_true.1 h x (List.mem_of_find?_eq_some hf);simpa using this
def m1 : MillA:=⟨[10,20],2,[⟨5,1,10,0,20⟩,⟨15,2,12,0,20⟩,⟨5,1,8,0,20⟩]⟩
def m2 : MillA:=⟨[10,20],2,[⟨5,1,10,0,20⟩,⟨15,2,12,0,20⟩,⟨5,3,9,0,20⟩]⟩
theorem m1_ok : m1.Ok:=by
 refine ⟨by simp [m1],fun w hw => ?_,by simp [m1],by simp [m1],fun x hx => ?_⟩
 ·simp [m1] at hw; rcases hw with rfl | rfl <;> omega
 ·simp [m1] at hx
  rcases hx with rfl | rfl | rfl <;> exact ⟨by simp,by simp,by simp,by simp,by simp⟩
theorem m2_ok : m2.Ok:=by
 refine ⟨by simp [m2],fun w hw => ?_,by simp [m2],by simp [m2],fun x hx => ?_⟩
 ·simp [m2] at hw; rcases hw with rfl | rfl <;> omega
 ·simp [m2] at hx
  rcases hx with rfl | rfl | rfl <;> exact ⟨by simp,by simp,by simp,by simp,by simp⟩
end Go.Abs
set_option linter.all false
namespace Go.Abs
set_option maxRecDepth 100000
set_option maxHeartbeats 0
open Go.Abs.Lo (FixA)
def m1V : AV:=.agg [.list 1 [iv 10,iv 20],iv 2,.list 5 [.agg [iv 5,iv 1,iv 10,iv 0,iv 20],.agg [iv 15,iv 2,iv 12,iv 0,iv 20],.agg [iv 5,iv 1,iv 8,iv 0,iv 20]]]
def m2V : AV:=.agg [.list 1 [iv 10,iv 20],iv 2,.list 5 [.agg [iv 5,iv 1,iv 10,iv 0,iv 20],.agg [iv 15,iv 2,iv 12,iv 0,iv 20],.agg [iv 5,iv 3,iv 9,iv 0,iv 20]]]
theorem ktog0 : lim F 37 [m1V,.list 1 [iv 0,iv 1],.mapI .i64 [] []] = some (.own 1 [.bool true,.bool true,.bool true,.bool true,.bool true,.bool true,.bool true,.bool true],[]):=(congrArg (lim F 37) (by kernel_rfl)).trans ((together_val m1 m1_ok (fixR []) (fR_in (by decide +kernel))).trans (by kernel_rfl))
theorem ktog1 : lim F 37 [m1V,.list 1 [iv 0,iv 1],.mapI .i64 [0] [.agg [iv 0,iv 0,iv 0]]] = some (.own 1 [.bool true,.bool true,.bool true,.bool true,.bool true,.bool true,.bool true,.bool true],[]):=(congrArg (lim F 37) (by kernel_rfl)).trans ((together_val m1 m1_ok (fixR [(0,0,0)]) (fR_in (by decide +kernel))).trans (by kernel_rfl))
theorem ktog2 : lim F 37 [m1V,.list 1 [iv 0,iv 1],.mapI .i64 [0,1] [.agg [iv 0,iv 0,iv 0],.agg [iv 1,iv 0,iv 0]]] = some (.own 1 [.bool true,.bool true,.bool false,.bool false,.bool true,.bool true,.bool false,.bool false],[]):=(congrArg (lim F 37) (by kernel_rfl)).trans ((together_val m1 m1_ok (fixR [(0,0,0),(1,0,0)]) (fR_in (by decide +kernel))).trans (by kernel_rfl))
theorem ktog3 : lim F 37 [m1V,.list 1 [iv 0,iv 1],.mapI .i64 [0,1] [.agg [iv 0,iv 0,iv 0],.agg [iv 1,iv 1,iv 0]]] = some (.own 1 [.bool true,.bool true,.bool true,.bool true,.bool true,.bool true,.bool true,.bool true],[]):=(congrArg (lim F 37) (by kernel_rfl)).trans ((together_val m1 m1_ok (fixR [(0,0,0),(1,1,0)]) (fR_in (by decide +kernel))).trans (by kernel_rfl))
theorem ktog4 : lim F 37 [m1V,.list 1 [iv 0,iv 1],.mapI .i64 [0,1,2] [.agg [iv 0,iv 0,iv 0],.agg [iv 1,iv 1,iv 0],.agg [iv 2,iv 0,iv 0]]] = some (.own 1 [.bool true,.bool true,.bool true,.bool true,.bool true,.bool false,.bool true,.bool false],[]):=(congrArg (lim F 37) (by kernel_rfl)).trans ((together_val m1 m1_ok (fixR [(0,0,0),(1,1,0),(2,0,0)]) (fR_in (by decide +kernel))).trans (by kernel_rfl))
theorem ktog5 : lim F 37 [m1V,.list 1 [iv 0,iv 1],.mapI .i64 [0,1,2] [.agg [iv 0,iv 0,iv 0],.agg [iv 1,iv 1,iv 0],.agg [iv 2,iv 1,iv 0]]] = some (.own 1 [.bool true,.bool true,.bool true,.bool true,.bool true,.bool true,.bool false,.bool false],[]):=(congrArg (lim F 37) (by kernel_rfl)).trans ((together_val m1 m1_ok (fixR [(0,0,0),(1,1,0),(2,1,0)]) (fR_in (by decide +kernel))).trans (by kernel_rfl))
theorem ktog6 : lim F 37 [m1V,.list 1 [iv 0,iv 1],.mapI .i64 [0,1,2] [.agg [iv 0,iv 0,iv 0],.agg [iv 1,iv 1,iv 0],.agg [iv 2,iv 0,iv 1]]] = some (.own 1 [.bool true,.bool true,.bool true,.bool true,.bool true,.bool false,.bool true,.bool false],[]):=(congrArg (lim F 37) (by kernel_rfl)).trans ((together_val m1 m1_ok (fixR [(0,0,0),(1,1,0),(2,0,1)]) (fR_in (by decide +kernel))).trans (by kernel_rfl))
theorem ktog7 : lim F 37 [m1V,.list 1 [iv 0,iv 1],.mapI .i64 [0,1,2] [.agg [iv 0,iv 0,iv 0],.agg [iv 1,iv 1,iv 0],.agg [iv 2,iv 1,iv 1]]] = some (.own 1 [.bool true,.bool true,.bool true,.bool true,.bool true,.bool true,.bool false,.bool false],[]):=(congrArg (lim F 37) (by kernel_rfl)).trans ((together_val m1 m1_ok (fixR [(0,0,0),(1,1,0),(2,1,1)]) (fR_in (by decide +kernel))).trans (by kernel_rfl))
theorem ktog8 : lim F 37 [m1V,.list 1 [iv 0,iv 1],.mapI .i64 [0,1,2] [.agg [iv 0,iv 0,iv 0],.agg [iv 1,iv 1,iv 0],.agg [iv 2,iv 0,iv 2]]] = some (.own 1 [.bool true,.bool true,.bool true,.bool true,.bool true,.bool false,.bool true,.bool false],[]):=(congrArg (lim F 37) (by kernel_rfl)).trans ((together_val m1 m1_ok (fixR [(0,0,0),(1,1,0),(2,0,2)]) (fR_in (by decide +kernel))).trans (by kernel_rfl))
theorem ktog9 : lim F 37 [m1V,.list 1 [iv 0,iv 1],.mapI .i64 [0,1,2] [.agg [iv 0,iv 0,iv 0],.agg [iv 1,iv 1,iv 0],.agg [iv 2,iv 1,iv 2]]] = some (.own 1 [.bool true,.bool true,.bool true,.bool true,.bool true,.bool true,.bool false,.bool false],[]):=(congrArg (lim F 37) (by kernel_rfl)).trans ((together_val m1 m1_ok (fixR [(0,0,0),(1,1,0),(2,1,2)]) (fR_in (by decide +kernel))).trans (by kernel_rfl))
theorem ktog10 : lim F 37 [m1V,.list 1 [iv 0,iv 1],.mapI .i64 [0,1,2] [.agg [iv 0,iv 0,iv 0],.agg [iv 1,iv 1,iv 0],.agg [iv 2,iv 0,iv 3]]] = some (.own 1 [.bool true,.bool true,.bool true,.bool true,.bool true,.bool false,.bool true,.bool false],[]):=(congrArg (lim F 37) (by kernel_rfl)).trans ((together_val m1 m1_ok (fixR [(0,0,0),(1,1,0),(2,0,3)]) (fR_in (by decide +kernel))).trans (by kernel_rfl))
theorem ktog11 : lim F 37 [m1V,.list 1 [iv 0,iv 1],.mapI .i64 [0,1,2] [.agg [iv 0,iv 0,iv 0],.agg [iv 1,iv 1,iv 0],.agg [iv 2,iv 1,iv 3]]] = some (.own 1 [.bool true,.bool true,.bool true,.bool true,.bool true,.bool true,.bool false,.bool false],[]):=(congrArg (lim F 37) (by kernel_rfl)).trans ((together_val m1 m1_ok (fixR [(0,0,0),(1,1,0),(2,1,3)]) (fR_in (by decide +kernel))).trans (by kernel_rfl))
theorem ktog12 : lim F 37 [m1V,.list 1 [iv 0,iv 1],.mapI .i64 [0,1,2] [.agg [iv 0,iv 0,iv 0],.agg [iv 1,iv 1,iv 0],.agg [iv 2,iv 0,iv 4]]] = some (.own 1 [.bool true,.bool true,.bool true,.bool true,.bool true,.bool false,.bool true,.bool false],[]):=(congrArg (lim F 37) (by kernel_rfl)).trans ((together_val m1 m1_ok (fixR [(0,0,0),(1,1,0),(2,0,4)]) (fR_in (by decide +kernel))).trans (by kernel_rfl))
theorem ktog13 : lim F 37 [m1V,.list 1 [iv 0,iv 1],.mapI .i64 [0,1,2] [.agg [iv 0,iv 0,iv 0],.agg [iv 1,iv 1,iv 0],.agg [iv 2,iv 1,iv 4]]] = some (.own 1 [.bool true,.bool true,.bool true,.bool true,.bool true,.bool true,.bool false,.bool false],[]):=(congrArg (lim F 37) (by kernel_rfl)).trans ((together_val m1 m1_ok (fixR [(0,0,0),(1,1,0),(2,1,4)]) (fR_in (by decide +kernel))).trans (by kernel_rfl))
theorem ktog14 : lim F 37 [m1V,.list 1 [iv 0,iv 1],.mapI .i64 [0,1,2] [.agg [iv 0,iv 0,iv 0],.agg [iv 1,iv 1,iv 0],.agg [iv 2,iv 0,iv 5]]] = some (.own 1 [.bool true,.bool true,.bool true,.bool true,.bool true,.bool false,.bool true,.bool false],[]):=(congrArg (lim F 37) (by kernel_rfl)).trans ((together_val m1 m1_ok (fixR [(0,0,0),(1,1,0),(2,0,5)]) (fR_in (by decide +kernel))).trans (by kernel_rfl))
theorem ktog15 : lim F 37 [m1V,.list 1 [iv 0,iv 1],.mapI .i64 [0,1,2] [.agg [iv 0,iv 0,iv 0],.agg [iv 1,iv 1,iv 0],.agg [iv 2,iv 1,iv 5]]] = some (.own 1 [.bool true,.bool true,.bool true,.bool true,.bool true,.bool true,.bool false,.bool false],[]):=(congrArg (lim F 37) (by kernel_rfl)).trans ((together_val m1 m1_ok (fixR [(0,0,0),(1,1,0),(2,1,5)]) (fR_in (by decide +kernel))).trans (by kernel_rfl))
theorem ktog16 : lim F 37 [m1V,.list 1 [iv 0,iv 1],.mapI .i64 [0,1,2] [.agg [iv 0,iv 0,iv 0],.agg [iv 1,iv 1,iv 0],.agg [iv 2,iv 0,iv 6]]] = some (.own 1 [.bool true,.bool true,.bool true,.bool true,.bool true,.bool false,.bool true,.bool false],[]):=(congrArg (lim F 37) (by kernel_rfl)).trans ((together_val m1 m1_ok (fixR [(0,0,0),(1,1,0),(2,0,6)]) (fR_in (by decide +kernel))).trans (by kernel_rfl))
theorem ktog17 : lim F 37 [m1V,.list 1 [iv 0,iv 1],.mapI .i64 [0,1,2] [.agg [iv 0,iv 0,iv 0],.agg [iv 1,iv 1,iv 0],.agg [iv 2,iv 1,iv 6]]] = some (.own 1 [.bool true,.bool true,.bool true,.bool true,.bool true,.bool true,.bool false,.bool false],[]):=(congrArg (lim F 37) (by kernel_rfl)).trans ((together_val m1 m1_ok (fixR [(0,0,0),(1,1,0),(2,1,6)]) (fR_in (by decide +kernel))).trans (by kernel_rfl))
theorem ktog18 : lim F 37 [m1V,.list 1 [iv 0,iv 1],.mapI .i64 [0,1,2] [.agg [iv 0,iv 0,iv 0],.agg [iv 1,iv 1,iv 0],.agg [iv 2,iv 0,iv 7]]] = some (.own 1 [.bool true,.bool true,.bool true,.bool true,.bool true,.bool false,.bool true,.bool false],[]):=(congrArg (lim F 37) (by kernel_rfl)).trans ((together_val m1 m1_ok (fixR [(0,0,0),(1,1,0),(2,0,7)]) (fR_in (by decide +kernel))).trans (by kernel_rfl))
theorem ktog19 : lim F 37 [m1V,.list 1 [iv 0,iv 1],.mapI .i64 [0,1,2] [.agg [iv 0,iv 0,iv 0],.agg [iv 1,iv 1,iv 0],.agg [iv 2,iv 1,iv 7]]] = some (.own 1 [.bool true,.bool true,.bool true,.bool true,.bool true,.bool true,.bool false,.bool false],[]):=(congrArg (lim F 37) (by kernel_rfl)).trans ((together_val m1 m1_ok (fixR [(0,0,0),(1,1,0),(2,1,7)]) (fR_in (by decide +kernel))).trans (by kernel_rfl))
theorem ktog20 : lim F 37 [m1V,.list 1 [iv 0,iv 1],.mapI .i64 [0,1,2] [.agg [iv 0,iv 0,iv 0],.agg [iv 1,iv 1,iv 0],.agg [iv 2,iv 0,iv 8]]] = some (.own 1 [.bool true,.bool true,.bool true,.bool true,.bool true,.bool false,.bool true,.bool false],[]):=(congrArg (lim F 37) (by kernel_rfl)).trans ((together_val m1 m1_ok (fixR [(0,0,0),(1,1,0),(2,0,8)]) (fR_in (by decide +kernel))).trans (by kernel_rfl))
theorem ktog21 : lim F 37 [m1V,.list 1 [iv 0,iv 1],.mapI .i64 [0,1,2] [.agg [iv 0,iv 0,iv 0],.agg [iv 1,iv 1,iv 0],.agg [iv 2,iv 1,iv 8]]] = some (.own 1 [.bool true,.bool true,.bool true,.bool true,.bool true,.bool true,.bool false,.bool false],[]):=(congrArg (lim F 37) (by kernel_rfl)).trans ((together_val m1 m1_ok (fixR [(0,0,0),(1,1,0),(2,1,8)]) (fR_in (by decide +kernel))).trans (by kernel_rfl))
theorem ktog22 : lim F 37 [m1V,.list 1 [iv 0,iv 1],.mapI .i64 [0,1,2] [.agg [iv 0,iv 0,iv 0],.agg [iv 1,iv 1,iv 0],.agg [iv 2,iv 0,iv 9]]] = some (.own 1 [.bool true,.bool true,.bool true,.bool true,.bool true,.bool false,.bool true,.bool false],[]):=(congrArg (lim F 37) (by kernel_rfl)).trans ((together_val m1 m1_ok (fixR [(0,0,0),(1,1,0),(2,0,9)]) (fR_in (by decide +kernel))).trans (by kernel_rfl))
theorem ktog23 : lim F 37 [m1V,.list 1 [iv 0,iv 1],.mapI .i64 [0,1,2] [.agg [iv 0,iv 0,iv 0],.agg [iv 1,iv 1,iv 0],.agg [iv 2,iv 1,iv 9]]] = some (.own 1 [.bool true,.bool true,.bool true,.bool true,.bool true,.bool true,.bool false,.bool false],[]):=(congrArg (lim F 37) (by kernel_rfl)).trans ((together_val m1 m1_ok (fixR [(0,0,0),(1,1,0),(2,1,9)]) (fR_in (by decide +kernel))).trans (by kernel_rfl))
theorem ktog24 : lim F 37 [m1V,.list 1 [iv 0,iv 1],.mapI .i64 [0,1,2] [.agg [iv 0,iv 0,iv 0],.agg [iv 1,iv 1,iv 0],.agg [iv 2,iv 0,iv 10]]] = some (.own 1 [.bool true,.bool true,.bool true,.bool true,.bool true,.bool true,.bool true,.bool true],[]):=(congrArg (lim F 37) (by kernel_rfl)).trans ((together_val m1 m1_ok (fixR [(0,0,0),(1,1,0),(2,0,10)]) (fR_in (by decide +kernel))).trans (by kernel_rfl))
theorem ktog25 : lim F 37 [m2V,.list 1 [iv 0,iv 1],.const (.map none)] = some (.own 1 [.bool true,.bool true,.bool true,.bool true,.bool true,.bool true,.bool true,.bool false],[]):=(congrArg (lim F 37) (by kernel_rfl)).trans ((together_val m2 m2_ok (f:=fun _=>none) .no (fun o r h => absurd h (by simp))).trans (by kernel_rfl))
end Go.Abs
set_option linter.all false
namespace Go.Abs
set_option maxRecDepth 100000
set_option maxHeartbeats 0
open Go.Abs.Lo (FixA)
def knext0M : Memo:=[((37,[m1V,.list 1 [iv 0,iv 1],.mapI .i64 [0] [.agg [iv 0,iv 0,iv 0]]]),(.own 1 [.bool true,.bool true,.bool true,.bool true,.bool true,.bool true,.bool true,.bool true],[]))]
theorem knext0 : lim F 40 [m1V,iv 0,.borM [] [] []] = some (.bool true,[.borM [] [[iv 0]] [.agg [iv 0,iv 0,iv 0]]]):=by
 refine lim_memo (n:=60) (m:=60) (t:=knext0M) rfl (fun x hx => ?_) (by kernel_rfl)
 simp only [knext0M,List.mem_cons,List.not_mem_nil,or_false] at hx;subst hx;exact ktog1
def knext1M : Memo:=[((37,[m1V,.list 1 [iv 0,iv 1],.mapI .i64 [0,1] [.agg [iv 0,iv 0,iv 0],.agg [iv 1,iv 0,iv 0]]]),(.own 1 [.bool true,.bool true,.bool false,.bool false,.bool true,.bool true,.bool false,.bool false],[])),
 ((37,[m1V,.list 1 [iv 0,iv 1],.mapI .i64 [0,1] [.agg [iv 0,iv 0,iv 0],.agg [iv 1,iv 1,iv 0]]]),(.own 1 [.bool true,.bool true,.bool true,.bool true,.bool true,.bool true,.bool true,.bool true],[]))]
theorem knext1 : lim F 40 [m1V,iv 1,.borM [] [[iv 0]] [.agg [iv 0,iv 0,iv 0]]] = some (.bool true,[.borM [] [[iv 0],[iv 1]] [.agg [iv 0,iv 0,iv 0],.agg [iv 1,iv 1,iv 0]]]):=by
 refine lim_memo (n:=60) (m:=60) (t:=knext1M) rfl (fun x hx => ?_) (by kernel_rfl)
 simp only [knext1M,List.mem_cons,List.not_mem_nil,or_false] at hx;rcases hx with rfl | rfl
 ·exact ktog2
 ·exact ktog3
def knext2M : Memo:=[((37,[m1V,.list 1 [iv 0,iv 1],.mapI .i64 [0,1,2] [.agg [iv 0,iv 0,iv 0],.agg [iv 1,iv 1,iv 0],.agg [iv 2,iv 0,iv 3]]]),(.own 1 [.bool true,.bool true,.bool true,.bool true,.bool true,.bool false,.bool true,.bool false],[])),
 ((37,[m1V,.list 1 [iv 0,iv 1],.mapI .i64 [0,1,2] [.agg [iv 0,iv 0,iv 0],.agg [iv 1,iv 1,iv 0],.agg [iv 2,iv 1,iv 3]]]),(.own 1 [.bool true,.bool true,.bool true,.bool true,.bool true,.bool true,.bool false,.bool false],[])),
 ((37,[m1V,.list 1 [iv 0,iv 1],.mapI .i64 [0,1,2] [.agg [iv 0,iv 0,iv 0],.agg [iv 1,iv 1,iv 0],.agg [iv 2,iv 0,iv 4]]]),(.own 1 [.bool true,.bool true,.bool true,.bool true,.bool true,.bool false,.bool true,.bool false],[])),
 ((37,[m1V,.list 1 [iv 0,iv 1],.mapI .i64 [0,1,2] [.agg [iv 0,iv 0,iv 0],.agg [iv 1,iv 1,iv 0],.agg [iv 2,iv 1,iv 4]]]),(.own 1 [.bool true,.bool true,.bool true,.bool true,.bool true,.bool true,.bool false,.bool false],[])),
 ((37,[m1V,.list 1 [iv 0,iv 1],.mapI .i64 [0,1,2] [.agg [iv 0,iv 0,iv 0],.agg [iv 1,iv 1,iv 0],.agg [iv 2,iv 0,iv 5]]]),(.own 1 [.bool true,.bool true,.bool true,.bool true,.bool true,.bool false,.bool true,.bool false],[])),
 ((37,[m1V,.list 1 [iv 0,iv 1],.mapI .i64 [0,1,2] [.agg [iv 0,iv 0,iv 0],.agg [iv 1,iv 1,iv 0],.agg [iv 2,iv 1,iv 5]]]),(.own 1 [.bool true,.bool true,.bool true,.bool true,.bool true,.bool true,.bool false,.bool false],[])),
 ((37,[m1V,.list 1 [iv 0,iv 1],.mapI .i64 [0,1,2] [.agg [iv 0,iv 0,iv 0],.agg [iv 1,iv 1,iv 0],.agg [iv 2,iv 0,iv 6]]]),(.own 1 [.bool true,.bool true,.bool true,.bool true,.bool true,.bool false,.bool true,.bool false],[])),
 ((37,[m1V,.list 1 [iv 0,iv 1],.mapI .i64 [0,1,2] [.agg [iv 0,iv 0,iv 0],.agg [iv 1,iv 1,iv 0],.agg [iv 2,iv 1,iv 6]]]),(.own 1 [.bool true,.bool true,.bool true,.bool true,.bool true,.bool true,.bool false,.bool false],[])),
 ((37,[m1V,.list 1 [iv 0,iv 1],.mapI .i64 [0,1,2] [.agg [iv 0,iv 0,iv 0],.agg [iv 1,iv 1,iv 0],.agg [iv 2,iv 0,iv 7]]]),(.own 1 [.bool true,.bool true,.bool true,.bool true,.bool true,.bool false,.bool true,.bool false],[])),
 ((37,[m1V,.list 1 [iv 0,iv 1],.mapI .i64 [0,1,2] [.agg [iv 0,iv 0,iv 0],.agg [iv 1,iv 1,iv 0],.agg [iv 2,iv 1,iv 7]]]),(.own 1 [.bool true,.bool true,.bool true,.bool true,.bool true,.bool true,.bool false,.bool false],[])),
 ((37,[m1V,.list 1 [iv 0,iv 1],.mapI .i64 [0,1,2] [.agg [iv 0,iv 0,iv 0],.agg [iv 1,iv 1,iv 0],.agg [iv 2,iv 0,iv 8]]]),(.own 1 [.bool true,.bool true,.bool true,.bool true,.bool true,.bool false,.bool true,.bool false],[])),
 ((37,[m1V,.list 1 [iv 0,iv 1],.mapI .i64 [0,1,2] [.agg [iv 0,iv 0,iv 0],.agg [iv 1,iv 1,iv 0],.agg [iv 2,iv 1,iv 8]]]),(.own 1 [.bool true,.bool true,.bool true,.bool true,.bool true,.bool true,.bool false,.bool false],[])),
 ((37,[m1V,.list 1 [iv 0,iv 1],.mapI .i64 [0,1,2] [.agg [iv 0,iv 0,iv 0],.agg [iv 1,iv 1,iv 0],.agg [iv 2,iv 0,iv 9]]]),(.own 1 [.bool true,.bool true,.bool true,.bool true,.bool true,.bool false,.bool true,.bool false],[])),
 ((37,[m1V,.list 1 [iv 0,iv 1],.mapI .i64 [0,1,2] [.agg [iv 0,iv 0,iv 0],.agg [iv 1,iv 1,iv 0],.agg [iv 2,iv 1,iv 9]]]),(.own 1 [.bool true,.bool true,.bool true,.bool true,.bool true,.bool true,.bool false,.bool false],[])),
 ((37,[m1V,.list 1 [iv 0,iv 1],.mapI .i64 [0,1,2] [.agg [iv 0,iv 0,iv 0],.agg [iv 1,iv 1,iv 0],.agg [iv 2,iv 0,iv 10]]]),(.own 1 [.bool true,.bool true,.bool true,.bool true,.bool true,.bool true,.bool true,.bool true],[])),
 ((37,[m1V,.list 1 [iv 0,iv 1],.mapI .i64 [0,1,2] [.agg [iv 0,iv 0,iv 0],.agg [iv 1,iv 1,iv 0],.agg [iv 2,iv 0,iv 0]]]),(.own 1 [.bool true,.bool true,.bool true,.bool true,.bool true,.bool false,.bool true,.bool false],[])),
 ((37,[m1V,.list 1 [iv 0,iv 1],.mapI .i64 [0,1,2] [.agg [iv 0,iv 0,iv 0],.agg [iv 1,iv 1,iv 0],.agg [iv 2,iv 1,iv 0]]]),(.own 1 [.bool true,.bool true,.bool true,.bool true,.bool true,.bool true,.bool false,.bool false],[])),
 ((37,[m1V,.list 1 [iv 0,iv 1],.mapI .i64 [0,1,2] [.agg [iv 0,iv 0,iv 0],.agg [iv 1,iv 1,iv 0],.agg [iv 2,iv 0,iv 1]]]),(.own 1 [.bool true,.bool true,.bool true,.bool true,.bool true,.bool false,.bool true,.bool false],[])),
 ((37,[m1V,.list 1 [iv 0,iv 1],.mapI .i64 [0,1,2] [.agg [iv 0,iv 0,iv 0],.agg [iv 1,iv 1,iv 0],.agg [iv 2,iv 1,iv 1]]]),(.own 1 [.bool true,.bool true,.bool true,.bool true,.bool true,.bool true,.bool false,.bool false],[])),
 ((37,[m1V,.list 1 [iv 0,iv 1],.mapI .i64 [0,1,2] [.agg [iv 0,iv 0,iv 0],.agg [iv 1,iv 1,iv 0],.agg [iv 2,iv 0,iv 2]]]),(.own 1 [.bool true,.bool true,.bool true,.bool true,.bool true,.bool false,.bool true,.bool false],[])),
 ((37,[m1V,.list 1 [iv 0,iv 1],.mapI .i64 [0,1,2] [.agg [iv 0,iv 0,iv 0],.agg [iv 1,iv 1,iv 0],.agg [iv 2,iv 1,iv 2]]]),(.own 1 [.bool true,.bool true,.bool true,.bool true,.bool true,.bool true,.bool false,.bool false],[]))]
theorem knext2 : lim F 40 [m1V,iv 2,.borM [] [[iv 0],[iv 1]] [.agg [iv 0,iv 0,iv 0],.agg [iv 1,iv 1,iv 0]]] = some (.bool true,[.borM [] [[iv 0],[iv 1],[iv 2]] [.agg [iv 0,iv 0,iv 0],.agg [iv 1,iv 1,iv 0],.agg [iv 2,iv 0,iv 10]]]):=by
 refine lim_memo (n:=60) (m:=60) (t:=knext2M) rfl (fun x hx => ?_) (by kernel_rfl)
 simp only [knext2M,List.mem_cons,List.not_mem_nil,or_false] at hx;rcases hx with rfl | rfl | rfl | rfl | rfl | rfl | rfl | rfl | rfl | rfl | rfl | rfl | rfl | rfl | rfl | rfl | rfl | rfl | rfl | rfl | rfl
 ·exact ktog10
 ·exact ktog11
 ·exact ktog12
 ·exact ktog13
 ·exact ktog14
 ·exact ktog15
 ·exact ktog16
 ·exact ktog17
 ·exact ktog18
 ·exact ktog19
 ·exact ktog20
 ·exact ktog21
 ·exact ktog22
 ·exact ktog23
 ·exact ktog24
 ·exact ktog4
 ·exact ktog5
 ·exact ktog6
 ·exact ktog7
 ·exact ktog8
 ·exact ktog9
def kplanM : Memo:=[((40,[m1V,iv 0,.borM [] [] []]),(.bool true,[.borM [] [[iv 0]] [.agg [iv 0,iv 0,iv 0]]])),
 ((40,[m1V,iv 1,.borM [] [[iv 0]] [.agg [iv 0,iv 0,iv 0]]]),(.bool true,[.borM [] [[iv 0],[iv 1]] [.agg [iv 0,iv 0,iv 0],.agg [iv 1,iv 1,iv 0]]])),
 ((40,[m1V,iv 2,.borM [] [[iv 0],[iv 1]] [.agg [iv 0,iv 0,iv 0],.agg [iv 1,iv 1,iv 0]]]),(.bool true,[.borM [] [[iv 0],[iv 1],[iv 2]] [.agg [iv 0,iv 0,iv 0],.agg [iv 1,iv 1,iv 0],.agg [iv 2,iv 0,iv 10]]])),
 ((37,[m1V,.list 1 [iv 0,iv 1],.mapI .i64 [] []]),(.own 1 [.bool true,.bool true,.bool true,.bool true,.bool true,.bool true,.bool true,.bool true],[]))]
theorem kplan : lim F 11 [.agg [.list 1 [iv 10,iv 20],iv 2],.list 5 [.agg [iv 5,iv 1,iv 10,iv 0,iv 20],.agg [iv 15,iv 2,iv 12,iv 0,iv 20],.agg [iv 5,iv 1,iv 8,iv 0,iv 20]]] = some (.tuple [.own 3 [.agg [iv 0,iv 0,iv 0],.agg [iv 1,iv 1,iv 0],.agg [iv 2,iv 0,iv 10]],iv 0],[]):=by
 refine lim_memo (n:=60) (m:=60) (t:=kplanM) rfl (fun x hx => ?_) (by kernel_rfl)
 simp only [kplanM,List.mem_cons,List.not_mem_nil,or_false] at hx;rcases hx with rfl | rfl | rfl | rfl
 ·exact knext0
 ·exact knext1
 ·exact knext2
 ·exact ktog0
def kagainstM : Memo:=[((37,[m2V,.list 1 [iv 0,iv 1],.const (.map none)]),(.own 1 [.bool true,.bool true,.bool true,.bool true,.bool true,.bool true,.bool true,.bool false],[]))]
theorem kagainst : lim F 48 [.agg [.list 1 [iv 10,iv 20],iv 2],.list 5 [.agg [iv 5,iv 1,iv 10,iv 0,iv 20],.agg [iv 15,iv 2,iv 12,iv 0,iv 20],.agg [iv 5,iv 3,iv 9,iv 0,iv 20]]] = some (.tuple [.own 1 [iv 0,iv 1,iv 2],iv 0],[]):=by
 refine lim_memo (n:=60) (m:=60) (t:=kagainstM) rfl (fun x hx => ?_) (by kernel_rfl)
 simp only [kagainstM,List.mem_cons,List.not_mem_nil,or_false] at hx;subst hx;exact ktog25
def pubShop_okM : Memo:=[((48,[.agg [.list 1 [iv 10,iv 20],iv 2],.list 5 [.agg [iv 5,iv 1,iv 10,iv 0,iv 20],.agg [iv 15,iv 2,iv 12,iv 0,iv 20],.agg [iv 5,iv 3,iv 9,iv 0,iv 20]]]),(.tuple [.own 1 [iv 0,iv 1,iv 2],iv 0],[])),
 ((11,[.agg [.list 1 [iv 10,iv 20],iv 2],.list 5 [.agg [iv 5,iv 1,iv 10,iv 0,iv 20],.agg [iv 15,iv 2,iv 12,iv 0,iv 20],.agg [iv 5,iv 1,iv 8,iv 0,iv 20]]]),(.tuple [.own 3 [.agg [iv 0,iv 0,iv 0],.agg [iv 1,iv 1,iv 0],.agg [iv 2,iv 0,iv 10]],iv 0],[]))]
theorem pubShop_ok : lim F 18 [] = some (.bool true,[]):=by
 refine lim_memo (n:=60) (m:=60) (t:=pubShop_okM) rfl (fun x hx => ?_) (by kernel_rfl)
 simp only [pubShop_okM,List.mem_cons,List.not_mem_nil,or_false] at hx;rcases hx with rfl | rfl
 ·exact kagainst
 ·exact kplan
end Go.Abs
