/-
 Several texts: LE1, LE2, Cut, LE3.
-/
import Derived.Test.YtlcikiobkmajbaaZS27
import Derived.Test.YtlcikiobkmajbaaZS44
import Derived.Test.YtlcikiobkmajbaaLS2
import Derived.Test.YtlcikiobkmajbaaK
set_option linter.all false
namespace Go.Abs.Seam
set_option maxRecDepth 10000
theorem cutsE_of {r : Int} {bad : List Int} {l : List Cut} (hv : CutsOk r bad l) (hi : ∀ i : Nat,i + 1 < bad.length → bad[i]?.getD 0 < bad[i + 1]?.getD 0) : cutsE r bad l = 0:=by
 unfold cutsE;rw [if_neg (by have:=hv.rr; omega),if_neg (by have:=hv.lb; have:=hv.ll; omega),if_neg,if_neg,if_neg]
 ·rintro ⟨i,h1,h2⟩
  have:=hi i h1; omega
 ·rw [Bool.not_eq_true,List.any_eq_false]
  intro c hc;have:=hv.cc c hc;simp only [decide_eq_true_eq];rintro (h | h)
  ·exact h this.1
  ·exact h this.2
 ·rw [Bool.not_eq_false,List.all_eq_true]
  intro b hb;exact decide_eq_true (hv.bb b hb)
theorem start_free {r : Int} {bad : List Int} {c : Cut} (hr : 1 ≤ r ∧ r ≤ 100) (hbad : ∀ b ∈ bad,0 ≤ b ∧ b ≤ 100000) (hc : 0 ≤ c.b ∧ c.b ≤ r - 1) {f f' : Int} (hf : 0 ≤ f) (h : f ≤ f') : startF r [] c f ≤ startF r bad c f':=by
 have h1:=(start_spec (bad:=[]) hr (by simp) hc hf).1
 have h2:=(start_spec hr hbad hc (by omega : 0 ≤ f')).1
 apply Classical.byContradiction;intro q;exact h1.no _ (by have:=h2.le; omega) (by omega) ⟨h2.ok.1,fun b hb => by cases hb⟩
theorem comp_free {r : Int} {bad : List Int} {l : List Cut} (hv : CutsOk r bad l) : ∀ (o : List Nat) {f g : Int},0 ≤ f → f ≤ g → (∀ i ∈ o,i < l.length) → comp r [] l o f ≤ comp r bad l o g
 | [],f,g,h0,h,_ => h
 | i :: o,f,g,h0,h,hi => by
  have h1:=hi i (by simp)
  have hc:=hv.cc _ (cutAt_mem h1);have hs:=start_free hv.rr hv.bb hc.2 h0 h;have e1 : comp r [] l (i :: o) f = comp r [] l o (endF r [] l f i):=rfl;have e2 : comp r bad l (i :: o) g = comp r bad l o (endF r bad l g i):=rfl;have hv0 : CutsOk r [] l:=⟨hv.rr,by simp,hv.ll,by simp,hv.cc⟩
  have hb:=endF_bound hv0 h0 h1;rw [e1,e2];exact comp_free hv o (f:=endF r [] l f i) (g:=endF r bad l g i) (by omega) (by unfold endF; omega) fun j hj => hi j (List.mem_cons_of_mem _ hj)
theorem best_free {r : Int} {bad : List Int} {l : List Cut} (hv : CutsOk r bad l) {p : Nat → Bool} {x y : Int} (h1 : Best r [] l p 0 x) (h2 : Best r bad l p 0 y) : x ≤ y:=by
 obtain ⟨⟨o,ho,hy⟩,_⟩:=h2;have:=h1.2 o ho;have:=comp_free hv o (Int.le_refl 0) (Int.le_refl 0) fun i hi => ((ho.2 i).1 hi).1
 omega
theorem start_near {r : Int} {bad : List Int} {l : List Cut} (hv : CutsOk r bad l) {M : Int} (hM : ∀ b ∈ bad,b < M) {c : Cut} (hc : c ∈ l) {f : Int} (hf : 0 ≤ f) : startF r bad c f ≤ max f M + r - 1:=by
 have hcc:=hv.cc c hc;have hr:=hv.rr;have h:=(start_spec hr hv.bb hcc.2 hf).1;obtain ⟨n1,n2,n3,_⟩:=next_rem (r:=r) (b:=c.b) (x:=max f M) (by omega) (by omega)
 apply Classical.byContradiction;intro q;exact h.no (max f M + (c.b + r - (max f M) % r) % r) (by omega) (by omega) ⟨n1,fun b hb => by have:=hM b hb; omega⟩
theorem comp_near {r : Int} {bad : List Int} {l : List Cut} (hv : CutsOk r bad l) {M B : Int} (hM : ∀ b ∈ bad,b < M) (hB : ∀ c ∈ l,c.p ≤ B) : ∀ (o : List Nat) (f : Int),0 ≤ f → (∀ i ∈ o,i < l.length) → f + o.length ≤ comp r bad l o f ∧ comp r bad l o f ≤ max f M + (r - 1 + B) * o.length
 | [],f,hf,_ => by simp [comp]; omega
 | i :: o,f,hf,hi => by
  have hil:=hi i (by simp)
  have h1:=start_near hv hM (cutAt_mem hil) hf;have h2:=(start_spec hv.rr hv.bb (hv.cc _ (cutAt_mem hil)).2 hf).1.le;have h3:=hv.cc _ (cutAt_mem hil);have h4:=hB _ (cutAt_mem hil);have h5:=hv.rr;have e : comp r bad l (i :: o) f = comp r bad l o (endF r bad l f i):=rfl;obtain ⟨g1,g2⟩:=comp_near hv hM hB o (endF r bad l f i) (by unfold endF; omega) fun j hj => hi j (by simp [hj])
  rw [e];unfold endF at g1 g2 ⊢;rw [List.length_cons];refine ⟨by omega,Int.le_trans g2 ?_⟩
  rw [show ((o.length + 1 : Nat) : Int) = (o.length : Int) + 1 by omega,Int.mul_add,Int.mul_one]
  omega
theorem need_near {r : Int} {bad : List Int} {l : List Cut} (hv : CutsOk r bad l) {M B : Int} (hM0 : 0 ≤ M) (hM : ∀ b ∈ bad,b < M) (hB : ∀ c ∈ l,c.p ≤ B) (hB0 : 0 ≤ B) (h0 : 0 < l.length) {x : Int} (h : Best r bad l (fun _ => true) 0 x) : 1 ≤ x ∧ x ≤ M + (r - 1 + B) * l.length:=by
 obtain ⟨⟨o,ho,rfl⟩,_⟩:=h;have hi : ∀ i ∈ o,i < l.length:=fun i hi => ((ho.2 i).1 hi).1
 obtain ⟨g1,g2⟩:=comp_near hv hM hB o 0 (by omega) hi
 have h1 : 0 ∈ o:=(ho.2 0).2 ⟨h0,rfl⟩;have h2 : 0 < o.length:=List.length_pos_of_mem h1;have hv0 : CutsOk r [] l:=⟨hv.rr,by simp,hv.ll,by simp,hv.cc⟩
 have h3:=ord_len hv ho;have hr:=hv.rr;refine ⟨by omega,Int.le_trans g2 ?_⟩
 have:=Int.mul_le_mul_of_nonneg_left (show (o.length : Int) ≤ l.length by omega) (show 0 ≤ r - 1 + B by omega)
 omega
theorem pieces_one {r picks x : Int} {l : List Cut} (hv : CutsOk r [] l) (h0 : 0 < l.length) (h : Best r [] l (fun _ => true) 0 x) (hx : x ≤ picks) :
  (∀ i,i < l.length → Feas r [] l picks fun j => decide (j = i)) ∧ ∀ m,LeastAsg l.length (Feas r [] l picks) (fun _ => true) m → m = 1:=by
 have hall : Feas r [] l picks fun _ => true:=⟨x,h,hx⟩
 refine ⟨fun i hi => feas_mono hv (fun _ _ _ => rfl) hall,fun m hm => ?_⟩
 have h1:=hm.2 1 ⟨fun _ => 0,fun _ _ _ => Nat.zero_lt_one,fun j hj => by
  obtain rfl : j = 0:=by omega
  exact feas_mono hv (fun _ _ _ => rfl) hall⟩
 obtain ⟨g,hg,_⟩:=hm.1;have:=hg 0 h0 rfl;omega
end Go.Abs.Seam
set_option linter.all false
namespace Go.Abs
set_option maxRecDepth 10000
set_option maxHeartbeats 8000000
open Go.Abs.Lo (OrdA MillA Tog loomsR InRow Less)
open Go.Abs.Seam (Cut CutsOk cutsE_of Cut_ok best_free need_near Pieces_ok pieces_one)
abbrev Byt:=Fin 256
def bytsV (l : List Byt) : List AV:=l.map fun r => .int .u8 (r.1 : Int)
def wrongA (l : List Byt) : Nat → Int
 | 0 => -1
 | k + 1 => wrongA l k + (1 + ((l.getD k 0).1 % 15 : Nat))
def wrongL (l : List Byt) (k : Nat) : List Int:=(List.range k).map fun i => wrongA l (i + 1)
theorem wrongA_lt (l : List Byt) (k : Nat) : wrongA l k < wrongA l (k + 1):=by
 rw [wrongA]; omega
theorem wrongA_in (l : List Byt) : ∀ k : Nat,-1 + (k : Int) ≤ wrongA l k ∧ wrongA l k ≤ -1 + 15 * k
 | 0 => by simp [wrongA]
 | k + 1 => by
  have:=wrongA_in l k;have:=Nat.mod_lt (l.getD k 0).1 (show 0 < 15 by omega)
  rw [wrongA]; omega
theorem wrongL_len (l : List Byt) (k : Nat) : (wrongL l k).length = k:=by simp [wrongL]
theorem wrongL_in (l : List Byt) (k : Nat) (hk : k ≤ 6) : ∀ b ∈ wrongL l k,0 ≤ b ∧ b < 90:=by
 intro b hb;obtain ⟨i,hi,rfl⟩:=List.mem_map.1 hb;have hi:=List.mem_range.1 hi;have:=wrongA_in l (i + 1);omega
theorem wrongL_inc (l : List Byt) (k : Nat) : ∀ i : Nat,i + 1 < (wrongL l k).length → (wrongL l k)[i]?.getD 0 < (wrongL l k)[i + 1]?.getD 0:=by
 intro i hi;rw [wrongL_len] at hi;unfold wrongL;rw [List.getElem?_map,List.getElem?_map,List.getElem?_range (by omega),List.getElem?_range (by omega)]
 exact wrongA_lt l (i + 1)
def wrongV (l : List Byt) (k : Nat) : List AV:=(wrongL l k).map fun n => iv n
theorem wrongV_succ (l : List Byt) (k : Nat) : wrongV l (k + 1) = wrongV l k ++ [iv (wrongA l (k + 1))]:=by
 unfold wrongV wrongL;rw [List.range_succ,List.map_append,List.map_append]; rfl
theorem wrongV_len (l : List Byt) (k : Nat) : (wrongV l k).length = k:=by simp [wrongV,wrongL]
theorem wrongV_plain (l : List Byt) (k : Nat) : (wrongV l k).all AV.plain = true:=by
 rw [List.all_eq_true];intro x hx;obtain ⟨y,-,rfl⟩:=List.mem_map.1 hx;rfl
abbrev CutY:=Byt × Byt
abbrev RowY:=CutY × CutY × CutY
def cutY (c : CutY) : Cut:=⟨(c.1.1 % 10 : Nat),1 + (c.2.1 % 20 : Nat)⟩
def cutsY (x : RowY) : List Cut:=[cutY x.1,cutY x.2.1,cutY x.2.2]
def rowY (x : RowY) : AV:=.agg [.int .u8 (x.1.1.1 : Int),.int .u8 (x.1.2.1 : Int),.int .u8 (x.2.1.1.1 : Int),.int .u8 (x.2.1.2.1 : Int),.int .u8 (x.2.2.1.1 : Int),.int .u8 (x.2.2.2.1 : Int)]
theorem cutY_in (c : CutY) : (1 ≤ (cutY c).p ∧ (cutY c).p ≤ 20) ∧ 0 ≤ (cutY c).b ∧ (cutY c).b ≤ 9:=by
 have h1:=Nat.mod_lt c.1.1 (show 0 < 10 by omega)
 have h2:=Nat.mod_lt c.2.1 (show 0 < 20 by omega)
 unfold cutY;dsimp only;omega
theorem cutsY_in (x : RowY) : ∀ c ∈ cutsY x,(1 ≤ c.p ∧ c.p ≤ 20) ∧ 0 ≤ c.b ∧ c.b ≤ 9:=by
 intro c hc;simp only [cutsY,List.mem_cons,List.not_mem_nil,or_false] at hc;rcases hc with rfl | rfl | rfl <;> exact cutY_in _
theorem cutsY_facts (bad : List Byt) (x : RowY) : ∃ (st st2 : List Int) (n k : Int),lim F 19 [iv 10,.list 1 [],.list 2 ((cutsY x).map Cut.av)] = some (.tuple [.own 1 (st.map fun n => iv n),iv n,iv 0],[]) ∧
  lim F 19 [iv 10,.list 1 (wrongV bad (min bad.length 6)),.list 2 ((cutsY x).map Cut.av)] = some (.tuple [.own 1 (st2.map fun n => iv n),iv k,iv 0],[]) ∧
  lim F 21 [iv 10,iv n,.list 2 ((cutsY x).map Cut.av)] = some (.tuple [iv 1,iv 0],[]) ∧ st.length = 3 ∧ st2.length = 3 ∧ 1 ≤ n ∧ n ≤ k ∧ k ≤ 800:=by
 have hL:=wrongL_in bad (min bad.length 6) (by omega)
 have hl:=wrongL_len bad (min bad.length 6);have hi:=wrongL_inc bad (min bad.length 6);have hc:=cutsY_in x;unfold wrongV;generalize wrongL bad (min bad.length 6) = L at *;have e3 : (cutsY x).length = 3:=rfl;generalize cutsY x = C at *;have v1 : CutsOk 10 L C:=⟨by omega,by omega,by omega,fun b hb => by have:=hL b hb; omega,fun c h => by have:=hc c h; omega⟩
 have v0 : CutsOk 10 [] C:=⟨by omega,by simp,by omega,by simp,v1.cc⟩
 have z1:=cutsE_of v1 hi;have z0:=cutsE_of v0 (by simp)
 obtain ⟨q,hC0,st,n,rfl,hB0,hF0⟩:=Cut_ok 10 [] C z0;obtain ⟨q,hC1,st2,k,rfl,hB1,hF1⟩:=Cut_ok 10 L C z1;have hfree:=best_free v1 hB0 hB1;have n0:=need_near v0 (M:=0) (B:=20) (by omega) (by simp) (fun c h => by have:=hc c h; omega) (by omega) (by omega) hB0
 have n1:=need_near v1 (M:=90) (B:=20) (by omega) (fun b hb => (hL b hb).2) (fun c h => by have:=hc c h; omega) (by omega) (by omega) hB1
 rw [e3] at n0 n1;obtain ⟨q,hP,hq⟩:=Pieces_ok 10 n C z0 (by omega)
 obtain ⟨p1,p2⟩:=pieces_one v0 (by omega) hB0 (Int.le_refl n)
 have hq1 : q = (AV.tuple [iv 1,iv 0],[]):=by
  rcases hq with ⟨m,rfl,hm⟩ | ⟨_,i,hi,hno⟩
  ·rw [p2 m hm]; rfl
  ·exact absurd (p1 i hi) hno
 subst hq1;exact ⟨_,_,n,k,hC0,hC1,hP,by simp [hF0.len,e3],by simp [hF1.len,e3],by omega,hfree,by omega⟩
end Go.Abs
set_option linter.all false
namespace Go.Abs
def frontC : Nat → ACode → ACode
 | n + 1,.seq a b => .seq a (frontC n b)
 | _,_ => .skip
def backC : Nat → ACode → ACode
 | n + 1,.seq _ b => backC n b
 | _,c => c
theorem Wp.seq_inv {call : CallF} {Q : AEx → Fr → Prop} {a b : ACode} {fr : Fr} (h : Wp call (.seq a b) fr Q) : Wp call a fr (thenQ call b Q):=by
 unfold Wp at h;obtain ⟨n,ex,fr',h1,h2⟩:=h;simp only [evalCode] at h1;unfold Wp;cases hx : evalCode call n a fr with
 | none => rw [hx] at h1; cases h1
 | some q =>
  obtain ⟨q1,q2⟩:=q;rw [hx] at h1;refine ⟨n,q1,q2,hx,?_⟩;cases q1 with
  | normal => show Wp call b q2 Q; unfold Wp; exact ⟨n,ex,fr',h1,h2⟩
  | exit i => cases h1; exact h2
  | ret => cases h1; exact h2
theorem Wp.skip_inv {call : CallF} {Q : AEx → Fr → Prop} {fr : Fr} (h : Wp call .skip fr Q) : Q .normal fr:=by
 unfold Wp at h;obtain ⟨n,ex,fr',h1,h2⟩:=h;simp only [evalCode] at h1;cases h1; exact h2
theorem Wp.cutP {call : CallF} {Q : AEx → Fr → Prop} (P : Fr → Prop) : ∀ (n : Nat) (c : ACode) (fr : Fr),Wp call (frontC n c) fr (fun ex fr' => ex = .normal ∧ P fr') → (∀ fr',P fr' → Wp call (backC n c) fr' Q) → Wp call c fr Q
 | n + 1,.seq a b,fr,h1,h2 => by
  refine Wp.seq ((Wp.seq_inv h1).mono fun ex fr' h => ?_)
  cases ex with
  | normal => exact Wp.cutP P n b fr' h h2
  | exit i => exact absurd h.1 (by simp)
  | ret => exact absurd h.1 (by simp)
 | 0,c,fr,h1,h2 => by
  have e1 : frontC 0 c = .skip:=by cases c <;> rfl
  have e2 : backC 0 c = c:=by cases c <;> rfl
  rw [e1] at h1; rw [e2] at h2
  exact h2 fr (Wp.skip_inv h1).2
 | _ + 1,.skip,fr,h1,h2 => h2 fr (Wp.skip_inv h1).2
 | _ + 1,.region ..,fr,h1,h2 => h2 fr (Wp.skip_inv h1).2
 | _ + 1,.regionX ..,fr,h1,h2 => h2 fr (Wp.skip_inv h1).2
 | _ + 1,.cond ..,fr,h1,h2 => h2 fr (Wp.skip_inv h1).2
 | _ + 1,.block ..,fr,h1,h2 => h2 fr (Wp.skip_inv h1).2
 | _ + 1,.loop ..,fr,h1,h2 => h2 fr (Wp.skip_inv h1).2
 | _ + 1,.exit ..,fr,h1,h2 => h2 fr (Wp.skip_inv h1).2
 | _ + 1,.ret,fr,h1,h2 => h2 fr (Wp.skip_inv h1).2
 | _ + 1,.rangeF ..,fr,h1,h2 => h2 fr (Wp.skip_inv h1).2
 | _ + 1,.norm ..,fr,h1,h2 => h2 fr (Wp.skip_inv h1).2
 | _ + 1,.rangeM ..,fr,h1,h2 => h2 fr (Wp.skip_inv h1).2
end Go.Abs
set_option linter.all false
namespace Go.Abs
set_option maxRecDepth 10000
set_option maxHeartbeats 8000000
open Go.Abs.Lo (OrdA MillA Tog loomsR InRow Less)
open Go.Abs.Seam (Cut)
structure SeamTo (os gs ks : List OrdA) : Prop where
 lg : gs.length = os.length
 lk : ks.length = os.length
 v : ∀ i,i < os.length → ∃ a b : Int,1 ≤ a ∧ a ≤ b ∧ b ≤ 100 ∧ gs[i]? = some ⟨(os.getD i default).w,(os.getD i default).c,a,(os.getD i default).e,(os.getD i default).t⟩ ∧ ks[i]? = some ⟨(os.getD i default).w,(os.getD i default).c,b,(os.getD i default).e,(os.getD i default).t⟩
theorem SeamTo.init {os : List OrdA} (h : ∀ x ∈ os,x.Ok) : SeamTo os os os where
 lg:=rfl
 lk:=rfl
 v:=fun i hi => by
  have e : os[i]? = some (os.getD i default):=by rw [List.getD_eq_getElem?_getD,List.getElem?_eq_getElem hi]; rfl
  have hx:=(h (os.getD i default) (List.mem_of_getElem? e)).v1;exact ⟨_,_,hx.1,Int.le_refl _,hx.2,e,e⟩
theorem SeamTo.next {os gs ks : List OrdA} (h : SeamTo os gs ks) {j : Nat} (hj : j < os.length) {a b : Int} (h1 : 1 ≤ a) (h2 : a ≤ b) (h3 : b ≤ 100) :
  SeamTo os (gs.set j ⟨(os.getD j default).w,(os.getD j default).c,a,(os.getD j default).e,(os.getD j default).t⟩) (ks.set j ⟨(os.getD j default).w,(os.getD j default).c,b,(os.getD j default).e,(os.getD j default).t⟩) where
 lg:=by simp [h.lg]
 lk:=by simp [h.lk]
 v:=fun i hi => by
  by_cases c : j = i
  ·subst c
   exact ⟨a,b,h1,h2,h3,List.getElem?_set_self (by rw [h.lg]; exact hj),List.getElem?_set_self (by rw [h.lk]; exact hj)⟩
  ·obtain ⟨a',b',q1,q2,q3,q4,q5⟩:=h.v i hi
   exact ⟨a',b',q1,q2,q3,by rw [List.getElem?_set_ne c]; exact q4,by rw [List.getElem?_set_ne c]; exact q5⟩
theorem SeamTo.mills {m : MillA} (hm : m.Ok) {os gs ks : List OrdA} (h : SeamTo os gs ks) (ho : ∀ x ∈ os,x.Ok) (h6 : os.length ≤ 6) : (⟨m.ws,m.ch,gs⟩ : MillA).Ok ∧ (⟨m.ws,m.ch,ks⟩ : MillA).Ok ∧ Less ⟨m.ws,m.ch,ks⟩ ⟨m.ws,m.ch,gs⟩:=by
 have hx : ∀ i,i < os.length → (os.getD i default).Ok:=fun i hi => ho _ (by
  have e : os[i]? = some (os.getD i default):=by rw [List.getD_eq_getElem?_getD,List.getElem?_eq_getElem hi]; rfl
  exact List.mem_of_getElem? e)
 refine ⟨⟨hm.l1,hm.w1,hm.ch1,by rw [h.lg]; exact h6,fun x hxm => ?_⟩,⟨hm.l1,hm.w1,hm.ch1,by rw [h.lk]; exact h6,fun x hxm => ?_⟩,⟨rfl,rfl,by dsimp only; rw [h.lg,h.lk],fun i hi => ?_⟩⟩
 ·obtain ⟨i,hi,rfl⟩:=List.getElem_of_mem hxm
  have hi' : i < os.length:=by rw [← h.lg]; exact hi
  obtain ⟨a,b,q1,q2,q3,q4,q5⟩:=h.v i hi';rw [List.getElem?_eq_getElem hi] at q4;rw [Option.some.inj q4];have k:=hx i hi';exact ⟨k.w1,k.c1,⟨q1,by dsimp only; omega⟩,k.e1,k.t1⟩
 ·obtain ⟨i,hi,rfl⟩:=List.getElem_of_mem hxm
  have hi' : i < os.length:=by rw [← h.lk]; exact hi
  obtain ⟨a,b,q1,q2,q3,q4,q5⟩:=h.v i hi';rw [List.getElem?_eq_getElem hi] at q5;rw [Option.some.inj q5];have k:=hx i hi';exact ⟨k.w1,k.c1,⟨by dsimp only; omega,q3⟩,k.e1,k.t1⟩
 ·dsimp only at hi
  obtain ⟨a,b,q1,q2,q3,q4,q5⟩:=h.v i (by rw [← h.lk]; exact hi)
  unfold MillA.o;dsimp only;rw [List.getD_eq_getElem?_getD,List.getD_eq_getElem?_getD (l:=ks),q4,q5];exact ⟨rfl,rfl,Int.le_refl _,rfl,q2⟩
theorem seam_left {m : MillA} (hm : m.Ok) {os gs ks : List OrdA} (ho : ∀ x ∈ os,x.Ok) (h6 : os.length ≤ 6) (h : SeamTo os gs ks) : ∃ A B : List Nat,lim F 22 [.agg [.list 1 (widV m),iv m.ch],.list 5 (gs.map ordV)] = some (.tuple [.own 1 (natsV A),iv 0],[]) ∧
  lim F 22 [.agg [.list 1 (widV m),iv m.ch],.list 5 (ks.map ordV)] = some (.tuple [.own 1 (natsV B),iv 0],[]) ∧ A.length ≤ B.length ∧ A.length ≤ 7 ∧ B.length ≤ 7:=by
 obtain ⟨hg,hk,hl⟩:=h.mills hm ho h6;obtain ⟨qa,hLa,La,rfl,s,s1,rfl,s3,s4⟩:=Left_ok ⟨m.ws,m.ch,gs⟩ hg;obtain ⟨qb,hLb,Lb,rfl,t,t1,rfl,t3,t4⟩:=Left_ok ⟨m.ws,m.ch,ks⟩ hk;have e1 : gs.length = ks.length:=by rw [h.lg,h.lk]
 dsimp only at t1 t3 s4;rw [← e1] at t1 t3;exact ⟨_,_,hLa,hLb,s4 t t1 (Tog.less hl t3),nums_len s,nums_len t⟩
theorem pubInts_ok (es : List AV) (hp : es.all AV.plain = true) (h : es.length ≤ 1000) : lim F 20 [.list 1 es] = some (.own 1 es,[]):=by
 have htk : es.take es.length = es:=List.take_of_length_le (by omega)
 refine Yr (fn:=a20) (k:=1) (res:=[.tmp 2]) rfl rfl rfl (by simp -implicitDefEqProofs(maxSteps:=9^7)(disch:=first|exact Yo rfl|omega|(simp only[go_sem]<;>omega)|fail)only[go_sem]) ?_
 try delta mvA
 try delta opA
 try delta tA
 simp -implicitDefEqProofs(maxSteps:=9^7)(disch:=first|exact Yo rfl|omega|(simp only[go_sem]<;>omega)|fail)only[go_sem]
 repeat(first|apply Ya|apply Yb|apply Yc|((first|apply Yd|apply Ye|apply Yf|apply Yg|apply Yh);simp -implicitDefEqProofs(maxSteps:=9^7)(disch:=first|exact Yo rfl|omega|(simp only[go_sem]<;>omega)|fail)only[go_sem,htk,hp]<;>try with_reducible rfl)|apply Yi|apply Yj|apply Yk|apply Yl|apply Ym|apply Yn)
theorem seamdays_main (km : lim F 23 [] = some (.bool true,[])) (ks' : lim F 18 [] = some (.bool true,[])) (cs : List RowY) (bad : List Byt) (l : List TriB) :
  lim F 4 [.list 6 (cs.map rowY),.list 1 (bytsV bad),.list 3 (trisV l)] = some (.bool true,[]):=by
 have hSh:=pubShed_ok 2 1 (by omega) (by omega) l
 rw [show ((2 : Nat) : Int) = 2 from rfl,show ((1 : Nat) : Int) = 1 from rfl] at hSh
 have hm:=shedM_ok 2 1 l;have n6:=hm.n6;have l3:=hm.l1;have hpw:=wid_plain (shedM 2 1 l);have hpo:=ords_plain (shedM 2 1 l);have lw:=wid_len (shedM 2 1 l);have lo':=ord_len (shedM 2 1 l);have hW:=pubWidths_ok (widV (shedM 2 1 l)) (shedM 2 1 l).ch hpw (by omega)
 have htw : (widV (shedM 2 1 l)).take (shedM 2 1 l).ws.length = widV (shedM 2 1 l):=List.take_of_length_le (by omega)
 have hto : (ordsV (shedM 2 1 l)).take (shedM 2 1 l).os.length = ordsV (shedM 2 1 l):=List.take_of_length_le (by omega)
 generalize shedM 2 1 l = m at *;have c4 : m.os.length ≤ 4 ∨ 4 < m.os.length:=by omega
 refine Yr (fn:=a4) (k:=3) (res:=[.tmp 6]) rfl rfl rfl (by simp -implicitDefEqProofs(maxSteps:=9^7)(disch:=first|exact Yo rfl|omega|(simp only[go_sem]<;>omega)|fail)only[go_sem]) ?_
 try delta mvA
 try delta opA
 try delta tA
 simp -implicitDefEqProofs(maxSteps:=9^7)(disch:=first|exact Yo rfl|omega|(simp only[go_sem]<;>omega)|fail)only[go_sem]
 refine Wp.cutP (fun fr => ∃ nx,fr = ⟨[(0,.list 6 (cs.map rowY)),(1,.list 1 (bytsV bad)),(7,.ptr 10000192 0 0),(8,.slice 10000065 0 (min m.os.length 4)),(9,.nilS 1),(10,iv (-1))],[(10000192,.box [.slice 10000064 0 m.ws.length,iv m.ch]),(10000064,.arr 1 (widV m)),(10000065,.arr 5 (ordsV m))],[],nx⟩) 4 _ _ ?_ ?_
 ·generalize widV m = WV at *
  generalize ordsV m = OV at *;generalize cs.map rowY = CV at *;generalize bytsV bad = BV at *;simp only [frontC];rcases c4 with c | c
  ·rw [show min m.os.length 4 = m.os.length by omega]
   repeat(first|apply Ya|apply Yb|apply Yc|((first|apply Yd|apply Ye|apply Yf|apply Yg|apply Yh);simp -implicitDefEqProofs(maxSteps:=9^7)(disch:=first|exact Yo rfl|omega|(simp only[go_sem]<;>omega)|fail)only[go_sem,hSh,lw,lo',htw,hto,hpw,hpo,show ¬ (4 : Int) < (m.os.length : Int) by omega]<;>try with_reducible rfl)|apply Yi|apply Yj|apply Yk|apply Yl|apply Ym|apply Yn)
   exact ⟨rfl,_,rfl⟩
  ·rw [show min m.os.length 4 = 4 by omega]
   repeat(first|apply Ya|apply Yb|apply Yc|((first|apply Yd|apply Ye|apply Yf|apply Yg|apply Yh);simp -implicitDefEqProofs(maxSteps:=9^7)(disch:=first|exact Yo rfl|omega|(simp only[go_sem]<;>omega)|fail)only[go_sem,hSh,lw,lo',htw,hto,hpw,hpo,show (4 : Int) < (m.os.length : Int) by omega]<;>try with_reducible rfl)|apply Yi|apply Yj|apply Yk|apply Yl|apply Ym|apply Yn)
   exact ⟨rfl,_,rfl⟩
 rintro fr ⟨nx,rfl⟩;simp only [backC];have lb : (bytsV bad).length = bad.length:=by simp [bytsV]
 have gb:=fun i (h : i < bad.length) => show (bytsV bad)[i]? = some (.int .u8 ((bad.getD i 0).1 : Int)) by
  unfold bytsV;rw [List.getElem?_map,List.getElem?_eq_getElem h,List.getD_eq_getElem?_getD,List.getElem?_eq_getElem h]; rfl
 have ws:=wrongV_succ bad;have wl:=wrongV_len bad;have wp:=wrongV_plain bad;have wi:=wrongA_in bad;have lc : (cs.map rowY).length = cs.length:=by simp
 have gc:=fun i (h : i < cs.length) => show (cs.map rowY)[i]? = some (rowY (cs.getD i default)) by
  rw [List.getElem?_map,List.getElem?_eq_getElem h,List.getD_eq_getElem?_getD,List.getElem?_eq_getElem h]; rfl
 have hF:=fun x => cutsY_facts bad x
 have wtk : ∀ k,(wrongV bad k).take k = wrongV bad k:=fun k => List.take_of_length_le (by rw [wl]; omega)
 have hWr:=pubInts_ok (wrongV bad (min bad.length 6)) (wp _) (by rw [wl]; omega)
 have w0 : wrongV bad 0 = []:=rfl;have wA0 : wrongA bad 0 = -1:=rfl;have wAS : ∀ k,wrongA bad (k + 1) = wrongA bad k + (1 + ((bad.getD k 0).1 % 15 : Nat)):=fun k => rfl
 have hOs : (ordsV m).take (min m.os.length 4) = (m.os.take 4).map ordV:=by
  unfold ordsV;rw [← List.map_take];rcases c4 with c | c
  ·rw [show min m.os.length 4 = m.os.length by omega,List.take_of_length_le (Nat.le_refl _),List.take_of_length_le c]
  ·rw [show min m.os.length 4 = 4 by omega]
 have hB4 : (m.os.take 4).length = min m.os.length 4:=by rw [List.length_take,Nat.min_comm]
 have hBok : ∀ x ∈ m.os.take 4,x.Ok:=fun x hx => hm.os1 x (List.mem_of_mem_take hx)
 have hOr:=pubOrders_ok ((m.os.take 4).map ordV) (by
  rw [List.all_eq_true];intro x hx;obtain ⟨y,-,rfl⟩:=List.mem_map.1 hx;rfl) (by rw [List.length_map,hB4]; omega)
 have hS0:=SeamTo.init hBok;have hBO : (m.os.take 4).length ≤ (ordsV m).length:=by rw [lo',hB4]; omega
 generalize m.os.take 4 = B at *;have hq4 : min m.os.length 4 ≤ 4:=Nat.min_le_right _ _;generalize min m.os.length 4 = q at *;subst hB4;generalize hCV : cs.map rowY = CV at *;generalize bytsV bad = BV at *;refine Wp.cutP (fun fr => fr = ⟨[(0,.list 6 CV),(1,.list 1 BV),(7,.ptr 448 0 0),(8,.slice 512 0 B.length),(9,.slice 576 0 (min bad.length 6)),(10,iv (wrongA bad (min bad.length 6))),(11,iv ((min bad.length 6 : Nat) : Int)),(47,.bool false)],[(448,.box [.slice 307168 0 m.ws.length,iv m.ch]),(512,.arr 5 (ordsV m)),(576,.arr 1 (wrongV bad (min bad.length 6))),(307168,.arr 1 (widV m))],[],10000256⟩) 1 _ _ ?_ ?_
 ·simp only [frontC]
  repeat(first|apply Ya|apply Yb|apply Yc|((first|apply Yd|apply Ye|apply Yf|apply Yg|apply Yh);simp -implicitDefEqProofs(maxSteps:=9^7)(disch:=first|exact Yo rfl|omega|(simp only[go_sem]<;>omega)|fail)only[go_sem]<;>try with_reducible rfl)|apply Yi|apply Yj|apply Yk|apply Yl|apply Ym|apply Yn)
  apply Yt (min bad.length 6) (fun i => ⟨[(0,.list 6 CV),(1,.list 1 BV),(7,.ptr 448 0 0),(8,.slice 512 0 B.length),(9,.slice 576 0 i),(10,iv (wrongA bad i)),(11,iv (i : Int))],[(448,.box [.slice 307168 0 m.ws.length,iv m.ch]),(512,.arr 5 (ordsV m)),(576,.arr 1 (wrongV bad i)),(307168,.arr 1 (widV m))],[],10000000⟩) (fun _ => True)
  ·simp -implicitDefEqProofs(maxSteps:=9^7)(disch:=first|exact Yo rfl|omega|(simp only[go_sem]<;>omega)|fail)only[go_sem,norm_eq,Ok.some]
   rfl
  ·trivial
  intro i hi _;by_cases h' : i < min bad.length 6
  ·have g1:=gb i (by omega)
   have s1:=ws i;have l1:=wl i;have p1:=wp i;have t1:=wtk i;have b1:=wi i;have a1:=wAS i;have m1:=Nat.mod_lt (bad.getD i 0).1 (show 0 < 15 by omega)
   have v1:=(bad.getD i 0).2;rw [s1,a1];generalize (bad.getD i 0).1 = v at *;have e1 : Int.tmod (v : Int) 15 = ((v % 15 : Nat) : Int):=by rw [Int.tmod_eq_emod_of_nonneg (Int.natCast_nonneg _)]; rfl
   generalize wrongV bad i = W at *;generalize wrongA bad i = la at *;generalize v % 15 = v15 at *;repeat(first|apply Ya|apply Yb|apply Yc|((first|apply Yd|apply Ye|apply Yf|apply Yg|apply Yh);simp -implicitDefEqProofs(maxSteps:=9^7)(disch:=first|exact Yo rfl|omega|(simp only[go_sem]<;>omega)|fail)only[go_sem,lb,Int.ofNat_lt,show i < bad.length by omega,show i < 6 by omega,show (i : Int) < 6 by omega,g1,e1,l1,t1,p1,Int.toNat_natCast]<;>try with_reducible rfl)|apply Yi|apply Yj|apply Yk|apply Yl|apply Ym|apply Yn)
   apply Ys
   ·simp -implicitDefEqProofs(maxSteps:=9^7)(disch:=first|exact Yo rfl|omega|(simp only[go_sem]<;>omega)|fail)only[go_sem,norm_eq,Ok.some]; with_reducible rfl
   exact ⟨h',by simp,trivial⟩
  ·obtain rfl : i = min bad.length 6:=by omega
   by_cases c1 : min bad.length 6 < bad.length
   ·repeat(first|apply Ya|apply Yb|apply Yc|((first|apply Yd|apply Ye|apply Yf|apply Yg|apply Yh);simp -implicitDefEqProofs(maxSteps:=9^7)(disch:=first|exact Yo rfl|omega|(simp only[go_sem]<;>omega)|fail)only[go_sem,lb,Int.ofNat_lt,c1,show ¬ (min bad.length 6 : Nat) < (6 : Nat) by omega,show ¬ ((min bad.length 6 : Nat) : Int) < 6 by omega]<;>try with_reducible rfl)|apply Yi|apply Yj|apply Yk|apply Yl|apply Ym|apply Yn)
    exact ⟨rfl,rfl⟩
   ·repeat(first|apply Ya|apply Yb|apply Yc|((first|apply Yd|apply Ye|apply Yf|apply Yg|apply Yh);simp -implicitDefEqProofs(maxSteps:=9^7)(disch:=first|exact Yo rfl|omega|(simp only[go_sem]<;>omega)|fail)only[go_sem,lb,Int.ofNat_lt,c1]<;>try with_reducible rfl)|apply Yi|apply Yj|apply Yk|apply Yl|apply Ym|apply Yn)
    exact ⟨rfl,rfl⟩
 rintro fr rfl;simp only [backC];have wl6:=wl (min bad.length 6);have wt6:=wtk (min bad.length 6);have wp6:=wp (min bad.length 6);generalize hWV : wrongV bad (min bad.length 6) = W at *;have hLeft:=fun gs ks (h : SeamTo B gs ks) => seam_left hm hBok (by omega) h
 have hBl : (B.map ordV).length = B.length:=by simp
 have hBt : (B.map ordV).take B.length = B.map ordV:=List.take_of_length_le (by simp)
 have hop : ∀ L : List OrdA,(L.map ordV).all AV.plain = true:=fun L => by
  rw [List.all_eq_true];intro x hx;obtain ⟨y,-,rfl⟩:=List.mem_map.1 hx;rfl
 have hop':=hop B;generalize wrongA bad (min bad.length 6) = wa at *;generalize min bad.length 6 = mb at *;generalize widV m = WV at *;generalize ordsV m = OV at *;repeat(first|apply Ya|apply Yb|apply Yc|((first|apply Yd|apply Ye|apply Yf|apply Yg|apply Yh);simp -implicitDefEqProofs(maxSteps:=9^7)(disch:=first|exact Yo rfl|omega|(simp only[go_sem]<;>omega)|fail)only[go_sem,hOs,hOr,hBl,hBt,hop',hBO]<;>try with_reducible rfl)|apply Yi|apply Yj|apply Yk|apply Yl|apply Ym|apply Yn)
 apply Yu (min B.length cs.length) (fun i fr => ∃ gs ks,fr = ⟨[(0,.list 6 CV),(7,.ptr 448 0 0),(8,.slice 512 0 B.length),(9,.slice 576 0 mb),(12,.slice 768 0 B.length),(13,.slice 832 0 B.length),(14,iv (i : Int))],[(448,.box [.slice 307168 0 m.ws.length,iv m.ch]),(512,.arr 5 OV),(576,.arr 1 W),(768,.arr 5 (gs.map ordV)),(832,.arr 5 (ks.map ordV)),(307168,.arr 1 WV)],[],10000000⟩ ∧ SeamTo B gs ks)
 ·simp -implicitDefEqProofs(maxSteps:=9^7)(disch:=first|exact Yo rfl|omega|(simp only[go_sem]<;>omega)|fail)only[go_sem,norm_eq,Ok.some]
  exact ⟨B,B,rfl,hS0⟩
 rintro i fr hi ⟨gs,ks,rfl,hS⟩;have lg : (gs.map ordV).length = B.length:=by rw [List.length_map,hS.lg]
 have lk : (ks.map ordV).length = B.length:=by rw [List.length_map,hS.lk]
 have pg:=hop gs;have pk:=hop ks;have tg : (gs.map ordV).take B.length = gs.map ordV:=List.take_of_length_le (by omega)
 have tk : (ks.map ordV).take B.length = ks.map ordV:=List.take_of_length_le (by omega)
 by_cases h' : i < min B.length cs.length
 ·have g1:=gc i (by omega)
  obtain ⟨st,st2,n,k,f1,f2,f3,f4,f5,f6,f7,f8⟩:=hF (cs.getD i default);generalize cs.getD i default = x at *;obtain ⟨a,b,q1,q2,q3,q4,q5⟩:=hS.v i (by omega)
  have nx3:=hS.next (j:=i) (by omega) (a:=(n + 9) / 10) (b:=(k + 9) / 10) (by omega) (by omega) (by omega)
  have d1 : Int.tdiv (n + 9) 10 = (n + 9) / 10:=Int.tdiv_eq_ediv_of_nonneg (by omega)
  have d2 : Int.tdiv (k + 9) 10 = (k + 9) / 10:=Int.tdiv_eq_ediv_of_nonneg (by omega)
  generalize B.getD i default = o at *;have u1 : (gs.map ordV)[i]? = some (.agg [iv o.w,iv o.c,iv a,iv o.e,iv o.t]):=by rw [List.getElem?_map,q4]; rfl
  have u2 : (ks.map ordV)[i]? = some (.agg [iv o.w,iv o.c,iv b,iv o.e,iv o.t]):=by rw [List.getElem?_map,q5]; rfl
  have u3 : (gs.map ordV).set i (.agg [iv o.w,iv o.c,iv ((n + 9) / 10),iv o.e,iv o.t]) = (gs.set i ⟨o.w,o.c,(n + 9) / 10,o.e,o.t⟩).map ordV:=by rw [List.map_set]; rfl
  have u4 : (ks.map ordV).set i (.agg [iv o.w,iv o.c,iv ((k + 9) / 10),iv o.e,iv o.t]) = (ks.set i ⟨o.w,o.c,(k + 9) / 10,o.e,o.t⟩).map ordV:=by rw [List.map_set]; rfl
  generalize gs.map ordV = GV at *;generalize ks.map ordV = KV at *;obtain ⟨⟨⟨x1,b1⟩,⟨x2,b2⟩⟩,⟨⟨x3,b3⟩,⟨x4,b4⟩⟩,⟨⟨x5,b5⟩,⟨x6,b6⟩⟩⟩:=x;unfold rowY at g1;have eC : ((cutsY ((⟨x1,b1⟩,⟨x2,b2⟩),(⟨x3,b3⟩,⟨x4,b4⟩),(⟨x5,b5⟩,⟨x6,b6⟩))).map Cut.av) = [.agg [iv (x1 % 10 : Nat),iv (1 + ((x2 % 20 : Nat) : Int))],.agg [iv (x3 % 10 : Nat),iv (1 + ((x4 % 20 : Nat) : Int))],.agg [iv (x5 % 10 : Nat),iv (1 + ((x6 % 20 : Nat) : Int))]]:=rfl;rw [eC] at f1 f2 f3;dsimp only at g1;have m10 : ∀ v : Nat,Int.tmod (v : Int) 10 = ((v % 10 : Nat) : Int):=fun v => by rw [Int.tmod_eq_emod_of_nonneg (Int.natCast_nonneg _)]; rfl
  have m20 : ∀ v : Nat,Int.tmod (v : Int) 20 = ((v % 20 : Nat) : Int):=fun v => by rw [Int.tmod_eq_emod_of_nonneg (Int.natCast_nonneg _)]; rfl
  have e1:=m10 x1;have e2:=m20 x2;have e3:=m10 x3;have e4:=m20 x4;have e5:=m10 x5;have e6:=m20 x6;have z1:=Nat.mod_lt x1 (show 0 < 10 by omega)
  have z2:=Nat.mod_lt x2 (show 0 < 20 by omega)
  have z3:=Nat.mod_lt x3 (show 0 < 10 by omega)
  have z4:=Nat.mod_lt x4 (show 0 < 20 by omega)
  have z5:=Nat.mod_lt x5 (show 0 < 10 by omega)
  have z6:=Nat.mod_lt x6 (show 0 < 20 by omega)
  generalize x1 % 10 = y1 at *;generalize x2 % 20 = y2 at *;generalize x3 % 10 = y3 at *;generalize x4 % 20 = y4 at *;generalize x5 % 10 = y5 at *;generalize x6 % 20 = y6 at *;repeat(first|apply Ya|apply Yb|apply Yc|((first|apply Yd|apply Ye|apply Yf|apply Yg|apply Yh);simp -implicitDefEqProofs(maxSteps:=9^7)(disch:=first|exact Yo rfl|omega|(simp only[go_sem]<;>omega)|fail)only[go_sem,lc,Int.ofNat_lt,show i < B.length by omega,show i < cs.length by omega]<;>try with_reducible rfl)|apply Yi|apply Yj|apply Yk|apply Yl|apply Ym|apply Yn)
  apply Yt 3 (fun j => ⟨[(0,.list 6 CV),(7,.ptr 448 0 0),(8,.slice 512 0 B.length),(9,.slice 576 0 mb),(12,.slice 768 0 B.length),(13,.slice 832 0 B.length),(14,iv (i : Int)),(15,.slice 960 0 j),(16,iv (j : Int))],[(448,.box [.slice 307168 0 m.ws.length,iv m.ch]),(512,.arr 5 OV),(576,.arr 1 W),(768,.arr 5 GV),(832,.arr 5 KV),(960,.arr 2 ([.agg [iv (y1 : Int),iv (1 + (y2 : Int))],.agg [iv (y3 : Int),iv (1 + (y4 : Int))],.agg [iv (y5 : Int),iv (1 + (y6 : Int))]].take j)),(307168,.arr 1 WV)],[],10000000⟩) (fun _ => True)
  ·simp -implicitDefEqProofs(maxSteps:=9^7)(disch:=first|exact Yo rfl|omega|(simp only[go_sem]<;>omega)|fail)only[go_sem,norm_eq,Ok.some]
  ·trivial
  intro j hj _
  match j,hj with
  | 0,_ =>
   repeat(first|apply Ya|apply Yb|apply Yc|((first|apply Yd|apply Ye|apply Yf|apply Yg|apply Yh);simp -implicitDefEqProofs(maxSteps:=9^7)(disch:=first|exact Yo rfl|omega|(simp only[go_sem]<;>omega)|fail)only[go_sem,g1,e1,e2,lc,show i < cs.length by omega]<;>try with_reducible rfl)|apply Yi|apply Yj|apply Yk|apply Yl|apply Ym|apply Yn)
   apply Ys
   ·simp -implicitDefEqProofs(maxSteps:=9^7)(disch:=first|exact Yo rfl|omega|(simp only[go_sem]<;>omega)|fail)only[go_sem,norm_eq,Ok.some]; with_reducible rfl
   exact ⟨by omega,rfl,trivial⟩
  | 1,_ =>
   repeat(first|apply Ya|apply Yb|apply Yc|((first|apply Yd|apply Ye|apply Yf|apply Yg|apply Yh);simp -implicitDefEqProofs(maxSteps:=9^7)(disch:=first|exact Yo rfl|omega|(simp only[go_sem]<;>omega)|fail)only[go_sem,g1,e3,e4,lc,show i < cs.length by omega]<;>try with_reducible rfl)|apply Yi|apply Yj|apply Yk|apply Yl|apply Ym|apply Yn)
   apply Ys
   ·simp -implicitDefEqProofs(maxSteps:=9^7)(disch:=first|exact Yo rfl|omega|(simp only[go_sem]<;>omega)|fail)only[go_sem,norm_eq,Ok.some]; with_reducible rfl
   exact ⟨by omega,rfl,trivial⟩
  | 2,_ =>
   repeat(first|apply Ya|apply Yb|apply Yc|((first|apply Yd|apply Ye|apply Yf|apply Yg|apply Yh);simp -implicitDefEqProofs(maxSteps:=9^7)(disch:=first|exact Yo rfl|omega|(simp only[go_sem]<;>omega)|fail)only[go_sem,g1,e5,e6,lc,show i < cs.length by omega]<;>try with_reducible rfl)|apply Yi|apply Yj|apply Yk|apply Yl|apply Ym|apply Yn)
   apply Ys
   ·simp -implicitDefEqProofs(maxSteps:=9^7)(disch:=first|exact Yo rfl|omega|(simp only[go_sem]<;>omega)|fail)only[go_sem,norm_eq,Ok.some]; with_reducible rfl
   exact ⟨by omega,rfl,trivial⟩
  | 3,_ =>
   repeat(first|apply Ya|apply Yb|apply Yc|((first|apply Yd|apply Ye|apply Yf|apply Yg|apply Yh);simp -implicitDefEqProofs(maxSteps:=9^7)(disch:=first|exact Yo rfl|omega|(simp only[go_sem]<;>omega)|fail)only[go_sem,f1,f2,f3,f4,f5,wl6,wt6,wp6,hWr,d1,d2,u1,u2,u3,u4,lg,lk,show i < B.length by omega,show ¬ n < 1 by omega,show ¬ k < n by omega,show ¬ (800 : Int) < k by omega]<;>try with_reducible rfl)|apply Yi|apply Yj|apply Yk|apply Yl|apply Ym|apply Yn)
   apply Ys
   ·simp -implicitDefEqProofs(maxSteps:=9^7)(disch:=first|exact Yo rfl|omega|(simp only[go_sem]<;>omega)|fail)only[go_sem,norm_eq,Ok.some]; with_reducible rfl
   exact ⟨h',_,_,by simp,nx3⟩
 ·obtain rfl : i = min B.length cs.length:=by omega
  obtain ⟨LA,LB,k1,k2,k3,k4,k5⟩:=hLeft gs ks hS;have n1 : (natsV LA).length = LA.length:=by simp
  have n2 : (natsV LB).length = LB.length:=by simp
  have t1 : (natsV LA).take LA.length = natsV LA:=List.take_of_length_le (by omega)
  have t2 : (natsV LB).take LB.length = natsV LB:=List.take_of_length_le (by omega)
  have p1 : (natsV LA).all AV.plain = true:=nat_plain LA;have p2 : (natsV LB).all AV.plain = true:=nat_plain LB;generalize natsV LA = AV1 at *;generalize natsV LB = AV2 at *;generalize gs.map ordV = GV at *;generalize ks.map ordV = KV at *;by_cases c1 : min B.length cs.length < B.length
  ·repeat(first|apply Ya|apply Yb|apply Yc|((first|apply Yd|apply Ye|apply Yf|apply Yg|apply Yh);simp -implicitDefEqProofs(maxSteps:=9^7)(disch:=first|exact Yo rfl|omega|(simp only[go_sem]<;>omega)|fail)only[go_sem,lc,lg,lk,lw,htw,hpw,Int.ofNat_lt,c1,show ¬ min B.length cs.length < cs.length by omega,hW,tg,tk,pg,pk,k1,k2,n1,n2,t1,t2,p1,p2,show (LA.length : Int) ≤ (LB.length : Int) by omega,km,ks']<;>try with_reducible rfl)|apply Yi|apply Yj|apply Yk|apply Yl|apply Ym|apply Yn)
  ·repeat(first|apply Ya|apply Yb|apply Yc|((first|apply Yd|apply Ye|apply Yf|apply Yg|apply Yh);simp -implicitDefEqProofs(maxSteps:=9^7)(disch:=first|exact Yo rfl|omega|(simp only[go_sem]<;>omega)|fail)only[go_sem,lc,lg,lk,lw,htw,hpw,Int.ofNat_lt,c1,hW,tg,tk,pg,pk,k1,k2,n1,n2,t1,t2,p1,p2,show (LA.length : Int) ≤ (LB.length : Int) by omega,km,ks']<;>try with_reducible rfl)|apply Yi|apply Yj|apply Yk|apply Yl|apply Ym|apply Yn)
end Go.Abs
