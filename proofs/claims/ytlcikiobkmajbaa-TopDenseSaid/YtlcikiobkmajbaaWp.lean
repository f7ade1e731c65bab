/-
 Running code to an end that meets a predicate: rules for proofs about functions, each by its body.
-/
import Derived.Test.YtlcikiobkmajbaaLim
set_option linter.all false
namespace Go.Abs
def Wp (call : CallF) (c : ACode) (fr : Fr) (Q : AEx → Fr → Prop) : Prop:=∃ n ex fr',evalCode call n c fr = some (ex,fr')∧Q ex fr'
theorem CallF.le_refl (c : CallF) : c.le c:=fun _ _ _ h => h
section
variable {call : CallF} {fr : Fr} {Q : AEx → Fr → Prop}
theorem Wp.mono {c : ACode} {Q' : AEx → Fr → Prop} (h : Wp call c fr Q) (hq : ∀ ex fr',Q ex fr' → Q' ex fr') : Wp call c fr Q':=by
 obtain ⟨n,ex,fr',h1,h2⟩:=h;exact ⟨n,ex,fr',h1,hq _ _ h2⟩
theorem Yn (h : Q .normal fr) : Wp call .skip fr Q:=⟨0,_,_,rfl,h⟩
theorem Ym (h : Q .ret fr) : Wp call .ret fr Q:=⟨0,_,_,rfl,h⟩
theorem Wp.meetE {keep : List Nat} {fr' : Fr} (h : norm keep fr = some fr') (hq : Q .normal fr') : Wp call (.norm keep) fr Q:=⟨0,_,_,by simp only [evalCode,h],hq⟩
theorem Yl {id : Nat} (h : Q (.exit id) fr) : Wp call (.exit id) fr Q:=⟨0,_,_,rfl,h⟩
def Ok {α : Type} (o : Option α) (P : α → Prop) : Prop:=match o with
 | some x => P x
 | none => False
theorem Ok.elim {α : Type} {o : Option α} {P : α → Prop} (h : Ok o P) : ∃ x,o = some x∧P x:=by
 cases o with
 | none => exact False.elim h
 | some x => exact ⟨x,rfl,h⟩
theorem Ok.some {α : Type} {x : α} {P : α → Prop} : Ok (Option.some x) P ↔ P x:=Iff.rfl
theorem Wp.region {ops : List AOper} {draw : Bool} {bef : List (List Nat)} {keep : List Nat} (h : Ok (runRegion call ops draw bef keep fr) (Q .normal)) : Wp call (.region ops draw bef keep) fr Q:=by
 obtain ⟨x,h1,h2⟩:=h.elim;exact ⟨0,_,_,by simp only [evalCode,h1],h2⟩
def thenQ (call : CallF) (b : ACode) (Q : AEx → Fr → Prop) : AEx → Fr → Prop
 | .normal,fr => Wp call b fr Q
 | e,fr => Q e fr
theorem Wp.seq {a b : ACode} (h : Wp call a fr (thenQ call b Q)) : Wp call (.seq a b) fr Q:=by
 obtain ⟨n,ex,fr',h1,h2⟩:=h;cases ex with
 | normal =>
  obtain ⟨m,ex2,fr2,h3,h4⟩:=h2;refine ⟨max n m,ex2,fr2,?_,h4⟩;simp only [evalCode];rw [evalCode_mono (CallF.le_refl _) (Nat.le_max_left n m) h1];exact evalCode_mono (CallF.le_refl _) (Nat.le_max_right n m) h3
 | exit i => exact ⟨n,_,_,by simp only [evalCode,h1],h2⟩
 | ret => exact ⟨n,_,_,by simp only [evalCode,h1],h2⟩
def condQ (v : Option AV) (A B : Prop) : Prop:=match v with
 | some (.bool true) => A
 | some (.bool false) => B
 | _ => False
theorem Wp.cond {c : AOpd} {x y : ACode} (h : condQ (getO (fun t=>lk t fr.tm) c) (Wp call x fr Q) (Wp call y fr Q)) : Wp call (.cond c x y) fr Q:=by
 unfold condQ at h;split at h
 ·rename_i hc
  obtain ⟨n,ex,fr',h1,h2⟩:=h;exact ⟨n,ex,fr',by simp only [evalCode,hc,h1],h2⟩
 ·rename_i hc
  obtain ⟨n,ex,fr',h1,h2⟩:=h;exact ⟨n,ex,fr',by simp only [evalCode,hc,h1],h2⟩
 ·exact h.elim
theorem condQ_dec {p : Prop} [Decidable p] {A B : Prop} (h1 : p → A) (h2 : ¬p → B) : condQ (some (.bool (decide p))) A B:=by
 by_cases h : p
 ·simp only [h,decide_true,condQ]; exact h1 h
 ·simp only [h,decide_false,condQ]; exact h2 h
theorem condQ_bool {b : Bool} {A B : Prop} (h1 : b = true → A) (h2 : b = false → B) : condQ (some (.bool b)) A B:=by
 cases b with
 | true => exact h1 rfl
 | false => exact h2 rfl
theorem condQ_true {A B : Prop} : condQ (some (.bool true)) A B ↔ A:=Iff.rfl
theorem condQ_false {A B : Prop} : condQ (some (.bool false)) A B ↔ B:=Iff.rfl
def blockQ (id : Nat) (Q : AEx → Fr → Prop) : AEx → Fr → Prop
 | .exit i,fr => if i = id then Q .normal fr else Q (.exit i) fr
 | e,fr => Q e fr
theorem Yi {id : Nat} {c : ACode} (h : Wp call c fr (blockQ id Q)) : Wp call (.block id c) fr Q:=by
 obtain ⟨n,ex,fr',h1,h2⟩:=h;cases ex with
 | normal => exact ⟨n,_,_,by simp only [evalCode,h1],h2⟩
 | ret => exact ⟨n,_,_,by simp only [evalCode,h1],h2⟩
 | exit i =>
  simp only [blockQ] at h2;by_cases hi : i = id
  ·rw [if_pos hi] at h2; exact ⟨n,_,_,by simp only [evalCode,h1,hi,if_true],h2⟩
  ·rw [if_neg hi] at h2; exact ⟨n,_,_,by simp only [evalCode,h1,hi,if_false],h2⟩
def roundQ (keep : List Nat) (next : Fr → Prop) (Q : AEx → Fr → Prop) : AEx → Fr → Prop
 | .normal,fr => Ok (norm keep fr) next
 | e,fr => Q e fr
theorem Wp.loopM {keep : List Nat} {c : ACode} (S : Nat → Fr → Prop) (h0 : Ok (norm keep fr) fun fr' => ∃ k,S k fr')
  (hs : ∀ k fr,S k fr → Wp call c fr (roundQ keep (fun fr' => ∃ k',k' < k∧S k' fr') Q)) : Wp call (.loop keep c) fr Q:=by
 have key : ∀ k fr,S k fr → ∃ n ex fr',loopN (evalCode call n c) (norm keep) n fr = some (ex,fr')∧Q ex fr':=by
  have lmono : ∀ (n n' m m' : Nat) (fr : Fr) (r : AEx × Fr),n≤n' → m≤m' → loopN (evalCode call n c) (norm keep) m fr = some r → loopN (evalCode call n' c) (norm keep) m' fr = some r:=by
   intro n n' m;induction m with
   | zero => intro m' fr r _ _ h; simp [loopN] at h
   | succ m ih =>
    intro m' fr r hn hm h;cases m' with
    | zero => omega
    | succ m' =>
     simp only [loopN] at h ⊢;cases hx : evalCode call n c fr with
     | none => rw [hx] at h; simp at h
     | some q =>
      rw [hx] at h;rw [evalCode_mono (CallF.le_refl _) hn hx];obtain ⟨q1,q2⟩:=q;cases q1 with
      | normal =>
       simp only at h ⊢;split at h
       ·exact ih m' _ r hn (by omega) h
       ·cases h
      | exit i => exact h
      | ret => exact h
  intro k;induction k using Nat.strongRecOn with
  | ind k ih =>
   intro fr hS;obtain ⟨n,ex,fr',h1,h2⟩:=hs k fr hS;cases ex with
   | normal =>
    obtain ⟨fr2,h3,k',hk',h4⟩:=Ok.elim h2;obtain ⟨m,ex,fr3,h5,h6⟩:=ih k' hk' fr2 h4;refine ⟨max n m + 1,ex,fr3,?_,h6⟩;simp only [loopN];rw [evalCode_mono (CallF.le_refl _) (by omega : n≤max n m + 1) h1]
    simp only [h3];exact lmono _ _ _ _ _ _ (by omega) (by omega) h5
   | exit i => exact ⟨n + 1,_,_,by simp only [loopN]; rw [evalCode_mono (CallF.le_refl _) (Nat.le_succ n) h1],h2⟩
   | ret => exact ⟨n + 1,_,_,by simp only [loopN]; rw [evalCode_mono (CallF.le_refl _) (Nat.le_succ n) h1],h2⟩
 obtain ⟨fr1,h1,k,hk⟩:=Ok.elim h0;obtain ⟨n,ex,fr2,h2,h3⟩:=key k fr1 hk;exact ⟨n,ex,fr2,by simp only [evalCode,h1]; exact h2,h3⟩
theorem Yu {keep : List Nat} {c : ACode} (N : Nat) (S : Nat → Fr → Prop) (h0 : Ok (norm keep fr) (S 0))
  (hs : ∀ i fr,i≤N → S i fr → Wp call c fr (roundQ keep (fun fr' => i < N∧S (i + 1) fr') Q)) : Wp call (.loop keep c) fr Q:=by
 refine Wp.loopM (fun k fr => ∃ i,k = N - i∧i≤N∧S i fr) ?_ ?_
 ·obtain ⟨fr',h1,h2⟩:=h0.elim
  rw [h1];exact ⟨N - 0,0,rfl,Nat.zero_le _,h2⟩
 ·rintro k fr ⟨i,rfl,hi,hS⟩
  refine (hs i fr hi hS).mono fun ex fr' hq => ?_
  cases ex with
  | normal =>
   obtain ⟨fr2,h1,h2,h3⟩:=Ok.elim hq;simp only [roundQ,h1];exact ⟨N - (i + 1),by omega,i + 1,rfl,by omega,h3⟩
  | exit i => exact hq
  | ret => exact hq
end
def finQ (fn : AFn) (r : AV × List AV) : AEx → Fr → Prop
 | .exit _,_ => False
 | _,fr => finish fn fr = some r
theorem lim_of_wp {F : Nat → Option AFn} {f : Nat} {fn : AFn} {args : List AV} {r : AV × List AV} (hf : F f = some fn) (ha : args.length = fn.nargs∧(imArgs entryBase args).2.2.2≤nextBase)
  (h : Wp (lim F) fn.body (enter args) (finQ fn r)) : lim F f args = some r:=by
 obtain ⟨n,ex,fr',h1,h2⟩:=h;refine lim_intro (n:=n) hf ?_;unfold evalFn;rw [if_pos ha,h1];cases ex with
 | normal => exact h2
 | ret => exact h2
 | exit i => exact h2.elim
section
variable {call : CallF} {fr fr' : Fr} {Q : AEx → Fr → Prop}
theorem Yf {ops : List AOper} {draw : Bool} {bef : List (List Nat)} {keep : List Nat} (h : runRegion call ops draw bef keep fr = some fr') (hq : Q .normal fr') : Wp call (.region ops draw bef keep) fr Q:=by
 apply Wp.region;rw [h]; exact hq
theorem Yd {ops : List AOper} {draw : Bool} {bef : List (List Nat)} {keep : List Nat} {b : ACode} (h : runRegion call ops draw bef keep fr = some fr') (hq : Wp call b fr' Q) : Wp call (.seq (.region ops draw bef keep) b) fr Q:=by
 apply Wp.seq;exact Yf h hq
theorem Wp.of_eval {a b : ACode} {fr2 : Fr} (he : ∀ n,evalCode call n b fr = evalCode call n a fr2) (h : Wp call a fr2 Q) : Wp call b fr Q:=by
 obtain ⟨n,ex,fr',h1,h2⟩:=h;exact ⟨n,ex,fr',by rw [he]; exact h1,h2⟩
theorem Ya {a b c : ACode} (h : Wp call (.seq a (.seq b c)) fr Q) : Wp call (.seq (.seq a b) c) fr Q:=by
 refine Wp.of_eval (fun n=>?_) h
 simp only [evalCode];cases hx : evalCode call n a fr with
 | none => rfl
 | some q =>
  obtain ⟨q1,q2⟩:=q;cases q1 <;> rfl
theorem Wp.meetS {keep : List Nat} {b : ACode} (h : norm keep fr = some fr') (hq : Wp call b fr' Q) : Wp call (.seq (.norm keep) b) fr Q:=Wp.seq (Wp.meetE h hq)
theorem Yk {b : ACode} (h : Q .ret fr) : Wp call (.seq .ret b) fr Q:=Wp.seq (Ym h)
theorem Yj {id : Nat} {b : ACode} (h : Q (.exit id) fr) : Wp call (.seq (.exit id) b) fr Q:=Wp.seq (Yl h)
theorem Yb {b : ACode} (h : Wp call b fr Q) : Wp call (.seq .skip b) fr Q:=Wp.seq (Yn h)
theorem Yc {id : Nat} {a b : ACode} (h : Wp call a fr (blockQ id (thenQ call b Q))) : Wp call (.seq (.block id a) b) fr Q:=Wp.seq (Yi h)
theorem Wp.condS {c : AOpd} {x y b : ACode} {v : Bool} (hv : getO (fun t=>lk t fr.tm) c = some (.bool v)) (h1 : v = true → Wp call (.seq x b) fr Q) (h2 : v = false → Wp call (.seq y b) fr Q) : Wp call (.seq (.cond c x y) b) fr Q:=by
 cases v with
 | true => exact Wp.of_eval (fun n=>by simp only [evalCode,hv]) (h1 rfl)
 | false => exact Wp.of_eval (fun n=>by simp only [evalCode,hv]) (h2 rfl)
theorem Wp.condE {c : AOpd} {x y : ACode} {v : Bool} (hv : getO (fun t=>lk t fr.tm) c = some (.bool v)) (h1 : v = true → Wp call x fr Q) (h2 : v = false → Wp call y fr Q) : Wp call (.cond c x y) fr Q:=by
 cases v with
 | true => exact Wp.of_eval (fun n=>by simp only [evalCode,hv]) (h1 rfl)
 | false => exact Wp.of_eval (fun n=>by simp only [evalCode,hv]) (h2 rfl)
theorem Wp.condT {c : AOpd} {x y b : ACode} (hv : getO (fun t=>lk t fr.tm) c = some (.bool true)) (h : Wp call (.seq x b) fr Q) : Wp call (.seq (.cond c x y) b) fr Q:=Wp.condS hv (fun _=>h) (fun e=>by cases e)
theorem Wp.condF {c : AOpd} {x y b : ACode} (hv : getO (fun t=>lk t fr.tm) c = some (.bool false)) (h : Wp call (.seq y b) fr Q) : Wp call (.seq (.cond c x y) b) fr Q:=Wp.condS hv (fun e=>by cases e) (fun _=>h)
def way (v : Bool) (x y : ACode) : ACode:=match v with
 | true => x
 | false => y
def tmF {α : Type} (l : List (Nat × α)) (i : Nat) : Option α:=lk i l
theorem Ye {c : AOpd} {x y b : ACode} {v : Bool} (hv : getO (tmF fr.tm) c = some (.bool v)) (h : Wp call (.seq (way v x y) b) fr Q) : Wp call (.seq (.cond c x y) b) fr Q:=Wp.condS hv (fun e=>by subst e; exact h) (fun e=>by subst e; exact h)
theorem Yg {c : AOpd} {x y : ACode} {v : Bool} (hv : getO (tmF fr.tm) c = some (.bool v)) (h : Wp call (way v x y) fr Q) : Wp call (.cond c x y) fr Q:=Wp.condE hv (fun e=>by subst e; exact h) (fun e=>by subst e; exact h)
theorem Wp.condTE {c : AOpd} {x y : ACode} (hv : getO (fun t=>lk t fr.tm) c = some (.bool true)) (h : Wp call x fr Q) : Wp call (.cond c x y) fr Q:=Wp.condE hv (fun _=>h) (fun e=>by cases e)
theorem Wp.condFE {c : AOpd} {x y : ACode} (hv : getO (fun t=>lk t fr.tm) c = some (.bool false)) (h : Wp call y fr Q) : Wp call (.cond c x y) fr Q:=Wp.condE hv (fun e=>by cases e) (fun _=>h)
theorem Ys {keep : List Nat} {next : Fr → Prop} (h : norm keep fr = some fr') (hn : next fr') : roundQ keep next Q .normal fr:=by
 simp only [roundQ,h]; exact hn
theorem Yt {keep : List Nat} {c : ACode} (N : Nat) (g : Nat → Fr) (P : Nat → Prop) (h0 : norm keep fr = some (g 0)) (p0 : P 0)
  (hs : ∀ i,i≤N → P i → Wp call c (g i) (roundQ keep (fun fr' => i < N∧fr' = g (i + 1)∧P (i + 1)) Q)) : Wp call (.loop keep c) fr Q:=by
 refine Yu N (fun i fr => fr = g i∧P i) (by rw [h0]; exact ⟨rfl,p0⟩) ?_
 rintro i fr hi ⟨rfl,hp⟩;exact hs i hi hp
end
theorem wayIt_mem {l : List (AV × AV)} (hl : l ≠ []) {c : List (AV × AV) × Option (AV × AV)} (h : c ∈ wayIt l) : ∃ (i : Nat) (x : AV × AV),l[i]? = some x∧c = (l.eraseIdx i,some x):=by
 match l,hl with
 | y :: l,_ =>
  simp only [wayIt,List.mem_map] at h;obtain ⟨p,hp,rfl⟩:=h;obtain ⟨x,i⟩:=p;rw [List.mem_zipIdx_iff_getElem?] at hp;exact ⟨i,x,by simpa using hp,rfl⟩
theorem Wp.rangeM {call : CallF} {fr : Fr} {Q : AEx → Fr → Prop} {keep : List Nat} {it nx more id : Nat} {body : ACode} (G : List (AV × AV) → Fr) (R : List (AV × AV) → Prop) (L : List (AV × AV))
  (h0 : norm keep fr = some (G L)) (r0 : R L) (hit : ∀ l,R l → iterOf it (G l) = some (id,l))
  (hs : ∀ l,R l → ∀ (i : Nat) x,l[i]? = some x → R (l.eraseIdx i)∧Wp call body (takeIt nx more id (l.eraseIdx i) (some x) (G l)) (fun ex fr' => ex = .normal∧norm keep fr' = some (G (l.eraseIdx i))))
  (re : R []) (hq : Wp call body (takeIt nx more id [] none (G [])) (fun ex fr' => ex ≠ .normal∧Q ex fr')) : Wp call (.rangeM keep it nx more body) fr Q:=by
 obtain ⟨nE,exE,frE,hE,hne,hQ⟩:=hq;have hstep : ∀ m m' : Nat,m≤m' → ∀ fr r,evalCode call m body fr = some r → evalCode call m' body fr = some r:=fun m m' hle fr r h => evalCode_mono (CallF.le_refl _) hle h
 have key : ∀ (len : Nat) (l : List (AV × AV)),l.length = len → R l → ∃ N,rangeMN (evalCode call N body) (norm keep) it nx more (len + 1) (G l) = some (exE,frE):=by
  intro len;induction len with
  | zero =>
   intro l hl hr;have : l = []:=List.eq_nil_of_length_eq_zero hl;subst this;refine ⟨nE,?_⟩;simp only [rangeMN,hit [] hr,wayIt,List.map_cons,List.map_nil];rw [pickX_spec];refine ⟨by simp,fun o ho => ?_⟩
   rw [List.mem_singleton.1 ho];simp only [roundIt,hE];cases exE with
   | normal => exact absurd rfl hne
   | exit i => rfl
   | ret => rfl
  | succ len ihl =>
   intro l hl hr;have hl0 : l ≠ []:=by rintro rfl; simp at hl
   obtain ⟨N,hN⟩:=all_max (P:=fun m c => roundIt (evalCode call m body) (norm keep) (rangeMN (evalCode call m body) (norm keep) it nx more (len + 1)) (takeIt nx more id c.1 c.2 (G l)) = some (exE,frE))
    (by
     intro m m' c hle h;exact roundIt_mono (hstep m m' hle) (fun fr r h => rangeMN_mono (hstep m m' hle) (len + 1) (len + 1) fr r (Nat.le_refl _) h) h) (wayIt l) (fun c hc => by
     obtain ⟨i,x,hi,rfl⟩:=wayIt_mem hl0 hc;obtain ⟨hr',n1,ex,fr',e1,rfl,e2⟩:=hs l hr i x hi;have hlt:=(List.getElem?_eq_some_iff.1 hi).1;obtain ⟨N2,hN2⟩:=ihl (l.eraseIdx i) (by rw [List.length_eraseIdx,if_pos hlt]; omega) hr'
     refine ⟨max n1 N2,?_⟩;unfold roundIt;rw [hstep _ _ (Nat.le_max_left n1 N2) _ _ e1];simp only [e2];exact rangeMN_mono (hstep _ _ (Nat.le_max_right n1 N2)) (len + 1) (len + 1) _ _ (Nat.le_refl _) hN2)
   refine ⟨N,?_⟩;rw [rangeMN];simp only [hit l hr];rw [pickX_spec];refine ⟨?_,fun o ho => ?_⟩
   ·match l,hl0 with
    | y :: l,_ => simp [wayIt]
   ·obtain ⟨c,hc,rfl⟩:=List.mem_map.1 ho
    exact hN c hc
 obtain ⟨N,hN⟩:=key L.length L rfl r0;refine ⟨max N (L.length + 1),exE,frE,?_,hQ⟩;simp only [evalCode,h0,rangeX_eq];exact rangeMN_mono (hstep _ _ (Nat.le_max_left ..)) _ _ _ _ (Nat.le_max_right ..) hN
attribute [irreducible] Wp Ok
end Go.Abs
