/-
 Calls without a bound on rounds and depth.
-/
import Derived.Test.YtlcikiobkmajbaaAbs
set_option linter.all false
namespace Go.Abs
theorem roundIt_mono {step step' : Fr → Option (AEx × Fr)} {nm : Fr → Option Fr} {rest rest' : Fr → Option (AEx × Fr)} (hs : ∀ fr r,step fr = some r → step' fr = some r) (hr : ∀ fr r,rest fr = some r → rest' fr = some r)
  {fr : Fr} {r : AEx × Fr} (h : roundIt step nm rest fr = some r) : roundIt step' nm rest' fr = some r:=by
 unfold roundIt at h ⊢;cases hx : step fr with
 | none => rw [hx] at h; simp at h
 | some q =>
  rw [hx] at h;rw [hs fr q hx];obtain ⟨q1,q2⟩:=q;cases q1 with
  | normal =>
   simp only at h ⊢;split at h
   ·exact hr _ _ h
   ·cases h
  | exit i => exact h
  | ret => exact h
theorem rangeMN_mono {step step' : Fr → Option (AEx × Fr)} {nm : Fr → Option Fr} {it nx more : Nat} (hs : ∀ fr r,step fr = some r → step' fr = some r) : ∀ (n n' : Nat) (fr : Fr) (r : AEx × Fr),n≤n' →
  rangeMN step nm it nx more n fr = some r → rangeMN step' nm it nx more n' fr = some r
 | 0,_,_,_,_,h => by simp [rangeMN] at h
 | n + 1,0,_,_,hn,_ => by omega
 | n + 1,n' + 1,fr,r,hn,h => by
  simp only [rangeMN] at h ⊢;split at h
  ·rename_i id left hit
   rw [pickX_spec] at h ⊢;refine ⟨by simpa using h.1,fun o ho => ?_⟩
   obtain ⟨c,hc,rfl⟩:=List.mem_map.1 ho;exact roundIt_mono hs (fun fr r h => rangeMN_mono hs n n' fr r (by omega) h) (h.2 _ (List.mem_map.2 ⟨c,hc,rfl⟩))
  ·cases h
def CallF.le (c c' : CallF) : Prop:=∀ f args r,c f args = some r → c' f args = some r
section
variable {c c' : CallF} (hc : c.le c')
include hc
theorem evCallF_mono {s : Nat} {R : Nat → Option Row} {bor : List Nat} {f : Nat} {xs : List AV} {e : Eff} (h : evCallF c s R bor f xs = some e) : evCallF c' s R bor f xs = some e:=by
 unfold evCallF at h ⊢;split at h
 ·rename_i l hl
  split at h
  ·rename_i hnd
   split at h
   ·rename_i res outs hcall
    simp only [hnd,if_true,hc _ _ _ hcall];exact h
   ·cases h
  ·cases h
 ·cases h
theorem evCall_mono {s : Nat} {g : AOpd → Option AV} {R : Nat → Option Row} {f : AOpd} {args : List AOpd} {bor : List Nat} {e : Eff} (h : evCall c s g R f args bor = some e) : evCall c' s g R f args bor = some e:=by
 unfold evCall at h ⊢;split at h
 ·exact h
 ·exact evCallF_mono hc h
 ·exact evCallF_mono hc h
 ·cases h
theorem evalOp_mono {s : Nat} {g : AOpd → Option AV} {R : Nat → Option Row} {op : AOp} {e : Eff} (h : evalOp c s g R op = some e) : evalOp c' s g R op = some e:=by
 cases op <;> simp only [evalOp] at h ⊢ <;> first | exact h | exact evCall_mono hc h
theorem stepOp_mono {s : Nat} {o : AOper} {T : Nat → Option AV} {R : Nat → Option Row} {e : Eff} (h : stepOp c s o T R = some e) : stepOp c' s o T R = some e:=by
 unfold stepOp at h ⊢;split at h
 ·exact evalOp_mono hc h
 ·split at h
  ·split at h
   ·rename_i hb; rw [if_pos hb]; exact evalOp_mono hc h
   ·rename_i hb; rw [if_neg hb]; exact h
  ·exact h
  ·cases h
theorem runOps_mono {base : Nat} {draw : Bool} : ∀ {os : List AOper} {k : Nat} {bef : List (List Nat)} {acc : List Foot} {tm : List (Nat × AV)} {rows : List (Nat × Row)} {r : List (Nat × AV) × List (Nat × Row)},
  runOps c base draw k os bef acc tm rows = some r → runOps c' base draw k os bef acc tm rows = some r
 | [],_,_,_,_,_,_,h => h
 | o :: os,k,bef,acc,tm,rows,r,h => by
  simp only [runOps] at h ⊢;split at h
  ·cases h
  ·rename_i e he
   rw [stepOp_mono hc he];simp only;split at h
   ·rename_i hd
    rw [if_pos hd];split at h
    ·rename_i ha; rw [if_pos ha]; exact runOps_mono h
    ·cases h
   ·rename_i hd
    rw [if_neg hd];exact runOps_mono h
omit hc in
theorem rounds_mono {step step' : Fr → Option (AEx × Fr)} {nm : Fr → Option Fr} {keep ps : List Nat} (hs : ∀ fr r,step fr = some r → step' fr = some r) : ∀ {xs : List (List AV)} {i : Nat} {fr : Fr} {r : Nat × AEx × Fr},
  rounds step nm keep ps i xs fr = some r → rounds step' nm keep ps i xs fr = some r
 | [],_,_,_,h => h
 | x :: xs,i,fr,r,h => by
  simp only [rounds] at h ⊢;cases htm : setPs ps x fr.tm with
  | none => rw [htm] at h; cases h
  | some tm =>
   rw [htm] at h;simp only at h ⊢;cases hst : step ⟨tm,fr.rows,fr.lent,fr.next⟩ with
   | none => rw [hst] at h; cases h
   | some q =>
    rw [hst] at h;rw [hs _ _ hst];obtain ⟨q1,q2⟩:=q;cases q1 with
    | normal =>
     simp only at h ⊢;cases hn : nm q2 with
     | none => rw [hn] at h; cases h
     | some fr2 => rw [hn] at h; exact rounds_mono hs h
    | exit i => exact h
    | ret => exact h
omit hc in
theorem bothE_mono {a a' : Option (AEx × Fr)} {b b' : Fr → Option (AEx × Fr)} {r : AEx × Fr} (ha : ∀ r,a = some r → a' = some r) (hb : ∀ fr r,b fr = some r → b' fr = some r) (h : bothE a b = some r) : bothE a' b' = some r:=by
 unfold bothE at h;split at h
 ·rename_i fr' 
  rw [ha _ rfl];exact hb _ _ h
 ·cases h
theorem endRange_mono {g : Nat} {pre vs : List AV} {xs : List (List AV)} {o : Option (Nat × AEx × Fr)} {r : AEx × Fr} (h : endRange c g pre vs xs o = some r) : endRange c' g pre vs xs o = some r:=by
 cases o with
 | none => cases h
 | some o =>
  obtain ⟨i,ex,fr⟩:=o;cases ex with
  | normal =>
   simp only [endRange] at h ⊢;cases hcall : c g (pre ++ .ylog (some 0) xs :: vs) with
   | none => rw [hcall] at h; cases h
   | some q => rw [hcall] at h; rw [hc _ _ _ hcall]; exact h
  | _ =>
   simp only [endRange] at h ⊢;cases hcall : c g (pre ++ .ylog (some 1) (xs.take (i + 1)) :: vs) with
   | none => rw [hcall] at h; cases h
   | some q => rw [hcall] at h; rw [hc _ _ _ hcall]; exact h
theorem evRangeF_mono {nm : Fr → Option Fr} {keep ps : List Nat} {step step' : Fr → Option (AEx × Fr)} {fr : Fr} {g : Nat} {pre vs : List AV} {ids : List Nat} {r : AEx × Fr} (hs : ∀ fr r,step fr = some r → step' fr = some r)
  (h : evRangeF c nm keep ps step fr g pre vs ids = some r) : evRangeF c' nm keep ps step' fr g pre vs ids = some r:=by
 unfold evRangeF at h ⊢;cases hcall : c g (pre ++ .ylog none [] :: vs) with
 | none => rw [hcall] at h; cases h
 | some q =>
  rw [hcall] at h;rw [hc _ _ _ hcall];split at h
  ·rename_i x y xs heq
   simp only [Option.some.injEq] at heq;subst heq;try simp only
   split at h
   ·rename_i fr1 hnm
    have h1:=endRange_mono hc h;cases hro : rounds step nm keep ps 0 xs fr1 with
    | none => rw [hro] at h; cases h
    | some q => rw [hro] at h1; rw [rounds_mono hs hro]; exact h1
   ·cases h
  ·cases h
theorem evRange_mono {nm : Fr → Option Fr} {keep ps : List Nat} {step step' : Fr → Option (AEx × Fr)} {fr : Fr} {f : Option AV} {r : AEx × Fr} (hs : ∀ fr r,step fr = some r → step' fr = some r)
  (h : evRange c nm keep ps step fr f = some r) : evRange c' nm keep ps step' fr f = some r:=by
 unfold evRange at h ⊢;split at h
 ·split at h
  ·exact evRangeF_mono hc hs h
  ·cases h
 ·split at h
  ·exact evRangeF_mono hc hs h
  ·cases h
 ·cases h
theorem runOpsX_mono {base : Nat} : ∀ {os : List AOper} {k : Nat} {bef : List (List Nat)} {acc : List FootX} {tm : List (Nat × AV)} {rows : List (Nat × Row)} {r : List (Nat × AV) × List (Nat × Row)},
  runOpsX c base k os bef acc tm rows = some r → runOpsX c' base k os bef acc tm rows = some r
 | [],_,_,_,_,_,_,h => h
 | o :: os,k,bef,acc,tm,rows,r,h => by
  simp only [runOpsX] at h ⊢;split at h
  ·cases h
  ·rename_i e he
   rw [stepOp_mono hc he];simp only;split at h
   ·rename_i ha
    rw [if_pos ha];exact runOpsX_mono h
   ·cases h
theorem evalCode_mono {n n' : Nat} (hn : n≤n') : ∀ {a : ACode} {fr : Fr} {r : AEx × Fr},evalCode c n a fr = some r → evalCode c' n' a fr = some r:=by
 intro a;induction a with
 | skip => intro fr r h; exact h
 | region ops draw bef keep =>
  intro fr r h;simp only [evalCode,runRegion] at h ⊢;cases hr : runOps c fr.next draw 0 ops bef [] fr.tm fr.rows with
  | none => rw [hr] at h; simp at h
  | some q => rw [hr] at h; rw [runOps_mono hc hr]; exact h
 | regionX ops bef keep =>
  intro fr r h;simp only [evalCode,runRegionX] at h ⊢;cases hr : runOpsX c fr.next 0 ops bef [] fr.tm fr.rows with
  | none => rw [hr] at h; simp at h
  | some q => rw [hr] at h; rw [runOpsX_mono hc hr]; exact h
 | norm keep => intro fr r h; exact h
 | seq x y ihx ihy =>
  intro fr r h;simp only [evalCode] at h ⊢;cases hx : evalCode c n x fr with
  | none => rw [hx] at h; simp at h
  | some q =>
   rw [hx] at h;rw [ihx hx];obtain ⟨q1,q2⟩:=q;cases q1 with
   | normal => exact ihy h
   | exit i => exact h
   | ret => exact h
 | cond cd x y ihx ihy =>
  intro fr r h;simp only [evalCode] at h ⊢;split at h
  ·exact ihx h
  ·exact ihy h
  ·cases h
 | block id x ih =>
  intro fr r h;simp only [evalCode] at h ⊢;cases hx : evalCode c n x fr with
  | none => rw [hx] at h; simp at h
  | some q => rw [hx] at h; rw [ih hx]; exact h
 | loop keep x ih =>
  intro fr r h;simp only [evalCode] at h ⊢;split at h
  ·rename_i fr1 hnorm
   have key : ∀ (m m' : Nat) (fr : Fr) (r : AEx × Fr),m≤m' → loopN (evalCode c n x) (norm keep) m fr = some r → loopN (evalCode c' n' x) (norm keep) m' fr = some r:=by
    intro m;induction m with
    | zero => intro m' fr r _ h; simp [loopN] at h
    | succ m ihm =>
     intro m' fr r hm h;cases m' with
     | zero => omega
     | succ m' =>
      simp only [loopN] at h ⊢;cases hx : evalCode c n x fr with
      | none => rw [hx] at h; simp at h
      | some q =>
       rw [hx] at h;rw [ih hx];obtain ⟨q1,q2⟩:=q;cases q1 with
       | normal =>
        simp only at h ⊢;split at h
        ·exact ihm m' _ r (by omega) h
        ·cases h
       | exit i => exact h
       | ret => exact h
   exact key n n' fr1 r hn h
  ·cases h
 | exit id => intro fr r h; exact h
 | ret => intro fr r h; exact h
 | rangeF f ps x y keep ihx ihy =>
  intro fr r h;simp only [evalCode] at h ⊢;exact evRange_mono hc (fun fr r h => bothE_mono (fun r h => ihx h) (fun fr r h => ihy h) h) h
 | rangeM keep it nx more x ih =>
  intro fr r h;simp only [evalCode,rangeX_eq] at h ⊢;split at h
  ·exact rangeMN_mono (fun fr r h => ih h) n n' _ r hn h
  ·cases h
theorem evalFn_mono {n n' : Nat} (hn : n≤n') {fn : AFn} {args : List AV} {r : AV × List AV} (h : evalFn c n fn args = some r) : evalFn c' n' fn args = some r:=by
 unfold evalFn at h ⊢;split at h
 ·rename_i hcond
  rw [if_pos hcond];cases hx : evalCode c n fn.body (enter args) with
  | none => rw [hx] at h; simp at h
  | some q => rw [hx] at h; rw [evalCode_mono hc hn hx]; exact h
 ·cases h
end
theorem evalCall_mono {F : Nat → Option AFn} : ∀ {n n' : Nat},n≤n' → CallF.le (evalCall F n) (evalCall F n')
 | 0,_,_,f,args,r,h => by simp [evalCall] at h
 | n + 1,0,hn,_,_,_,_ => by omega
 | n + 1,n' + 1,hn,f,args,r,h => by
  simp only [evalCall] at h ⊢;split at h
  ·exact evalFn_mono (evalCall_mono (by omega)) (by omega) h
  ·cases h
def Ev (F : Nat → Option AFn) (f : Nat) (args : List AV) (r : AV × List AV) : Prop:=∃ n,evalCall F n f args = some r
theorem Ev.det {F : Nat → Option AFn} {f : Nat} {args : List AV} {r r' : AV × List AV} (h : Ev F f args r) (h' : Ev F f args r') : r = r':=by
 obtain ⟨n,hn⟩:=h;obtain ⟨m,hm⟩:=h';have h1:=evalCall_mono (Nat.le_max_left n m) f args r hn;have h2:=evalCall_mono (Nat.le_max_right n m) f args r' hm;rw [h1] at h2;exact Option.some.inj h2
open Classical in
noncomputable def lim (F : Nat → Option AFn) : CallF:=fun f args => if h : ∃ r,Ev F f args r then some (Classical.choose h) else none
theorem lim_iff {F : Nat → Option AFn} {f : Nat} {args : List AV} {r : AV × List AV} : lim F f args = some r ↔ Ev F f args r:=by
 unfold lim;constructor
 ·intro h
  split at h
  ·rename_i hex
   simp only [Option.some.injEq] at h;rw [← h]; exact Classical.choose_spec hex
  ·cases h
 ·intro h
  rw [dif_pos ⟨r,h⟩];exact congrArg some ((Classical.choose_spec (⟨r,h⟩ : ∃ r,Ev F f args r)).det h)
section
variable {F : Nat → Option AFn}
theorem evCallF_cont {s : Nat} {R : Nat → Option Row} {bor : List Nat} {f : Nat} {xs : List AV} {e : Eff} (h : evCallF (lim F) s R bor f xs = some e) : ∃ m,evCallF (evalCall F m) s R bor f xs = some e:=by
 unfold evCallF at h ⊢;split at h
 ·rename_i l hl
  split at h
  ·rename_i hnd
   split at h
   ·rename_i res outs hcall
    obtain ⟨m,hm⟩:=lim_iff.1 hcall;refine ⟨m,?_⟩;simp only [hnd,if_true,hm];exact h
   ·cases h
  ·cases h
 ·cases h
theorem evalOp_cont {s : Nat} {g : AOpd → Option AV} {R : Nat → Option Row} {op : AOp} {e : Eff} (h : evalOp (lim F) s g R op = some e) : ∃ m,evalOp (evalCall F m) s g R op = some e:=by
 cases op;case call f args bor =>
  simp only [evalOp] at h ⊢;unfold evCall at h ⊢;split at h
  ·exact ⟨0,h⟩
  ·exact evCallF_cont h
  ·exact evCallF_cont h
  ·cases h
 all_goals exact ⟨0,h⟩
theorem stepOp_cont {s : Nat} {o : AOper} {T : Nat → Option AV} {R : Nat → Option Row} {e : Eff} (h : stepOp (lim F) s o T R = some e) : ∃ m,stepOp (evalCall F m) s o T R = some e:=by
 unfold stepOp at h ⊢;split at h
 ·exact evalOp_cont h
 ·split at h
  ·split at h
   ·rename_i hb
    obtain ⟨m,hm⟩:=evalOp_cont h;exact ⟨m,by rw [if_pos hb]; exact hm⟩
   ·rename_i hb; exact ⟨0,by rw [if_neg hb]; exact h⟩
  ·exact ⟨0,h⟩
  ·cases h
theorem runOps_cont {base : Nat} {draw : Bool} : ∀ {os : List AOper} {k : Nat} {bef : List (List Nat)} {acc : List Foot} {tm : List (Nat × AV)} {rows : List (Nat × Row)} {r : List (Nat × AV) × List (Nat × Row)},
  runOps (lim F) base draw k os bef acc tm rows = some r → ∃ m,runOps (evalCall F m) base draw k os bef acc tm rows = some r
 | [],_,_,_,_,_,_,h => ⟨0,h⟩
 | o :: os,k,bef,acc,tm,rows,r,h => by
  simp only [runOps] at h;split at h
  ·cases h
  ·rename_i e he
   obtain ⟨m,hm⟩:=stepOp_cont he;split at h
   ·rename_i hd
    split at h
    ·rename_i ha
     obtain ⟨m',hm'⟩:=runOps_cont h;refine ⟨max m m',?_⟩;simp only [runOps];rw [stepOp_mono (evalCall_mono (Nat.le_max_left m m')) hm];simp only;rw [if_pos hd,if_pos ha];exact runOps_mono (evalCall_mono (Nat.le_max_right m m')) hm'
    ·cases h
   ·rename_i hd
    obtain ⟨m',hm'⟩:=runOps_cont h;refine ⟨max m m',?_⟩;simp only [runOps];rw [stepOp_mono (evalCall_mono (Nat.le_max_left m m')) hm];simp only;rw [if_neg hd];exact runOps_mono (evalCall_mono (Nat.le_max_right m m')) hm'
theorem runOpsX_cont {base : Nat} : ∀ {os : List AOper} {k : Nat} {bef : List (List Nat)} {acc : List FootX} {tm : List (Nat × AV)} {rows : List (Nat × Row)} {r : List (Nat × AV) × List (Nat × Row)},
  runOpsX (lim F) base k os bef acc tm rows = some r → ∃ m,runOpsX (evalCall F m) base k os bef acc tm rows = some r
 | [],_,_,_,_,_,_,h => ⟨0,h⟩
 | o :: os,k,bef,acc,tm,rows,r,h => by
  simp only [runOpsX] at h;split at h
  ·cases h
  ·rename_i e he
   obtain ⟨m,hm⟩:=stepOp_cont he;split at h
   ·rename_i ha
    obtain ⟨m',hm'⟩:=runOpsX_cont h;refine ⟨max m m',?_⟩;simp only [runOpsX];rw [stepOp_mono (evalCall_mono (Nat.le_max_left m m')) hm];simp only;rw [if_pos ha];exact runOpsX_mono (evalCall_mono (Nat.le_max_right m m')) hm'
   ·cases h
theorem rounds_cont {step : CallF → Fr → Option (AEx × Fr)} {nm : Fr → Option Fr} {keep ps : List Nat} (hm : ∀ {c c' : CallF},c.le c' → ∀ fr r,step c fr = some r → step c' fr = some r)
  (hs : ∀ fr r,step (lim F) fr = some r → ∃ m,step (evalCall F m) fr = some r) : ∀ {xs : List (List AV)} {i : Nat} {fr : Fr} {r : Nat × AEx × Fr},
  rounds (step (lim F)) nm keep ps i xs fr = some r → ∃ m,rounds (step (evalCall F m)) nm keep ps i xs fr = some r
 | [],_,_,_,h => ⟨0,h⟩
 | x :: xs,i,fr,r,h => by
  simp only [rounds] at h ⊢;cases htm : setPs ps x fr.tm with
  | none => rw [htm] at h; cases h
  | some tm =>
   rw [htm] at h;simp only at h ⊢;cases hst : step (lim F) ⟨tm,fr.rows,fr.lent,fr.next⟩ with
   | none => rw [hst] at h; cases h
   | some q =>
    rw [hst] at h;obtain ⟨m,h1⟩:=hs _ _ hst;obtain ⟨q1,q2⟩:=q;cases q1 with
    | normal =>
     simp only at h;cases hn : nm q2 with
     | none => rw [hn] at h; cases h
     | some fr2 =>
      rw [hn] at h;obtain ⟨m',h2⟩:=rounds_cont hm hs h;refine ⟨max m m',?_⟩;rw [hm (evalCall_mono (Nat.le_max_left m m')) _ _ h1];simp only [hn];exact rounds_mono (fun fr r h => hm (evalCall_mono (Nat.le_max_right m m')) fr r h) h2
    | exit i => exact ⟨m,by rw [h1]; exact h⟩
    | ret => exact ⟨m,by rw [h1]; exact h⟩
theorem endRange_cont {g : Nat} {pre vs : List AV} {xs : List (List AV)} {o : Option (Nat × AEx × Fr)} {r : AEx × Fr} (h : endRange (lim F) g pre vs xs o = some r) : ∃ m,endRange (evalCall F m) g pre vs xs o = some r:=by
 cases o with
 | none => cases h
 | some o =>
  obtain ⟨i,ex,fr⟩:=o;cases ex with
  | normal =>
   simp only [endRange] at h ⊢;cases hcall : lim F g (pre ++ .ylog (some 0) xs :: vs) with
   | none => rw [hcall] at h; cases h
   | some q => rw [hcall] at h; obtain ⟨m,hm⟩:=lim_iff.1 hcall; exact ⟨m,by rw [hm]; exact h⟩
  | _ =>
   simp only [endRange] at h ⊢;cases hcall : lim F g (pre ++ .ylog (some 1) (xs.take (i + 1)) :: vs) with
   | none => rw [hcall] at h; cases h
   | some q => rw [hcall] at h; obtain ⟨m,hm⟩:=lim_iff.1 hcall; exact ⟨m,by rw [hm]; exact h⟩
theorem evRangeF_cont {step : CallF → Fr → Option (AEx × Fr)} {nm : Fr → Option Fr} {keep ps : List Nat} {fr : Fr} {g : Nat} {pre vs : List AV} {ids : List Nat} {r : AEx × Fr} (hm : ∀ {c c' : CallF},c.le c' → ∀ fr r,step c fr = some r → step c' fr = some r)
  (hs : ∀ fr r,step (lim F) fr = some r → ∃ m,step (evalCall F m) fr = some r) (h : evRangeF (lim F) nm keep ps (step (lim F)) fr g pre vs ids = some r) : ∃ m,evRangeF (evalCall F m) nm keep ps (step (evalCall F m)) fr g pre vs ids = some r:=by
 unfold evRangeF at h;split at h
 ·rename_i x xs hcall
  split at h
  ·rename_i fr1 hnm
   obtain ⟨m1,h1⟩:=lim_iff.1 hcall;cases hro : rounds (step (lim F)) nm keep ps 0 xs fr1 with
   | none => rw [hro] at h; cases h
   | some q =>
    rw [hro] at h;obtain ⟨m2,h2⟩:=rounds_cont hm hs hro;obtain ⟨m3,h3⟩:=endRange_cont h;refine ⟨max m1 (max m2 m3),?_⟩;have l1 : (evalCall F m1).le (evalCall F (max m1 (max m2 m3))):=evalCall_mono (by omega)
    have l2 : (evalCall F m2).le (evalCall F (max m1 (max m2 m3))):=evalCall_mono (by omega)
    have l3 : (evalCall F m3).le (evalCall F (max m1 (max m2 m3))):=evalCall_mono (by omega)
    unfold evRangeF;simp only [l1 _ _ _ h1,hnm];rw [rounds_mono (fun fr r h => hm l2 fr r h) h2]
    exact endRange_mono l3 h3
  ·cases h
 ·cases h
theorem evRange_cont {step : CallF → Fr → Option (AEx × Fr)} {nm : Fr → Option Fr} {keep ps : List Nat} {fr : Fr} {f : Option AV} {r : AEx × Fr} (hm : ∀ {c c' : CallF},c.le c' → ∀ fr r,step c fr = some r → step c' fr = some r)
  (hs : ∀ fr r,step (lim F) fr = some r → ∃ m,step (evalCall F m) fr = some r) (h : evRange (lim F) nm keep ps (step (lim F)) fr f = some r) : ∃ m,evRange (evalCall F m) nm keep ps (step (evalCall F m)) fr f = some r:=by
 unfold evRange at h ⊢;split at h
 ·split at h
  ·exact evRangeF_cont hm hs h
  ·cases h
 ·split at h
  ·exact evRangeF_cont hm hs h
  ·cases h
 ·cases h
theorem all_max {α : Type} {P : Nat → α → Prop} (hm : ∀ m m' c,m≤m' → P m c → P m' c) : ∀ l : List α,(∀ c ∈ l,∃ m,P m c) → ∃ m,∀ c ∈ l,P m c
 | [],_ => ⟨0,by simp⟩
 | a :: l,h => by
  obtain ⟨m1,h1⟩:=h a (by simp)
  obtain ⟨m2,h2⟩:=all_max hm l fun c hc => h c (List.mem_cons_of_mem _ hc)
  refine ⟨max m1 m2,fun c hc => ?_⟩
  rcases List.mem_cons.1 hc with rfl | hc
  ·exact hm _ _ _ (Nat.le_max_left ..) h1
  ·exact hm _ _ _ (Nat.le_max_right ..) (h2 c hc)
theorem rangeMN_cont {n : Nat} {x : ACode} (ih : ∀ {fr : Fr} {r : AEx × Fr},evalCode (lim F) n x fr = some r → ∃ m,evalCode (evalCall F m) n x fr = some r) {nm : Fr → Option Fr} {it nx more : Nat} :
  ∀ (k : Nat) (fr : Fr) (r : AEx × Fr),rangeMN (evalCode (lim F) n x) nm it nx more k fr = some r → ∃ m,rangeMN (evalCode (evalCall F m) n x) nm it nx more k fr = some r
 | 0,_,_,h => by simp [rangeMN] at h
 | k + 1,fr,r,h => by
  simp only [rangeMN] at h ⊢;split at h
  ·rename_i id left hit
   rw [pickX_spec] at h;have hstep : ∀ m m' : Nat,m≤m' → ∀ fr r,evalCode (evalCall F m) n x fr = some r → evalCode (evalCall F m') n x fr = some r:=fun m m' hle fr r h => evalCode_mono (evalCall_mono hle) (Nat.le_refl n) h
   have hmono : ∀ (m m' : Nat) (c : List (AV × AV) × Option (AV × AV)),m≤m' → roundIt (evalCode (evalCall F m) n x) nm (rangeMN (evalCode (evalCall F m) n x) nm it nx more k) (takeIt nx more id c.1 c.2 fr) = some r →
     roundIt (evalCode (evalCall F m') n x) nm (rangeMN (evalCode (evalCall F m') n x) nm it nx more k) (takeIt nx more id c.1 c.2 fr) = some r:=by
    intro m m' c hle h;exact roundIt_mono (hstep m m' hle) (fun fr r h => rangeMN_mono (hstep m m' hle) k k fr r (Nat.le_refl k) h) h
   obtain ⟨m,hm⟩:=all_max (P:=fun m c => roundIt (evalCode (evalCall F m) n x) nm (rangeMN (evalCode (evalCall F m) n x) nm it nx more k) (takeIt nx more id c.1 c.2 fr) = some r)
    hmono (wayIt left) (fun c hc => by
     have h1:=h.2 _ (List.mem_map.2 ⟨c,hc,rfl⟩);unfold roundIt at h1;cases hx : evalCode (lim F) n x (takeIt nx more id c.1 c.2 fr) with
     | none => rw [hx] at h1; simp at h1
     | some q =>
      rw [hx] at h1;obtain ⟨m,hm⟩:=ih hx;obtain ⟨q1,q2⟩:=q;cases q1 with
      | normal =>
       simp only at h1;split at h1
       ·rename_i fr2 hn2
        obtain ⟨m',hm'⟩:=rangeMN_cont ih k fr2 r h1;refine ⟨max m m',?_⟩;unfold roundIt;rw [hstep _ _ (Nat.le_max_left m m') _ _ hm];simp only [hn2];exact rangeMN_mono (hstep _ _ (Nat.le_max_right m m')) k k fr2 r (Nat.le_refl k) hm'
       ·cases h1
      | exit i => exact ⟨m,by unfold roundIt; rw [hm]; exact h1⟩
      | ret => exact ⟨m,by unfold roundIt; rw [hm]; exact h1⟩)
   refine ⟨m,?_⟩;rw [pickX_spec];refine ⟨by simpa using h.1,fun o ho => ?_⟩
   obtain ⟨c,hc,rfl⟩:=List.mem_map.1 ho;exact hm c hc
  ·cases h
theorem evalCode_cont {n : Nat} : ∀ {a : ACode} {fr : Fr} {r : AEx × Fr},evalCode (lim F) n a fr = some r → ∃ m,evalCode (evalCall F m) n a fr = some r:=by
 intro a;induction a with
 | skip => intro fr r h; exact ⟨0,h⟩
 | region ops draw bef keep =>
  intro fr r h;simp only [evalCode,runRegion] at h ⊢;cases hr : runOps (lim F) fr.next draw 0 ops bef [] fr.tm fr.rows with
  | none => rw [hr] at h; simp at h
  | some q =>
   rw [hr] at h;obtain ⟨m,hm⟩:=runOps_cont hr;exact ⟨m,by rw [hm]; exact h⟩
 | regionX ops bef keep =>
  intro fr r h;simp only [evalCode,runRegionX] at h ⊢;cases hr : runOpsX (lim F) fr.next 0 ops bef [] fr.tm fr.rows with
  | none => rw [hr] at h; simp at h
  | some q =>
   rw [hr] at h;obtain ⟨m,hm⟩:=runOpsX_cont hr;exact ⟨m,by rw [hm]; exact h⟩
 | norm keep => intro fr r h; exact ⟨0,h⟩
 | seq x y ihx ihy =>
  intro fr r h;simp only [evalCode] at h ⊢;cases hx : evalCode (lim F) n x fr with
  | none => rw [hx] at h; simp at h
  | some q =>
   rw [hx] at h;obtain ⟨m,hm⟩:=ihx hx;obtain ⟨q1,q2⟩:=q;cases q1 with
   | normal =>
    obtain ⟨m',hm'⟩:=ihy h;refine ⟨max m m',?_⟩;rw [evalCode_mono (evalCall_mono (Nat.le_max_left m m')) (Nat.le_refl n) hm];exact evalCode_mono (evalCall_mono (Nat.le_max_right m m')) (Nat.le_refl n) hm'
   | exit i => exact ⟨m,by rw [hm]; exact h⟩
   | ret => exact ⟨m,by rw [hm]; exact h⟩
 | rangeF f ps x y keep ihx ihy =>
  intro fr r h;simp only [evalCode] at h ⊢;refine evRange_cont (step:=fun c fr => bothE (evalCode c n x fr) (evalCode c n y)) (fun hle fr r h => bothE_mono (fun r h => evalCode_mono hle (Nat.le_refl n) h) (fun fr r h => evalCode_mono hle (Nat.le_refl n) h) h) (fun fr r h => ?_) h
  unfold bothE at h;split at h
  ·rename_i fr' hx
   obtain ⟨m,hm⟩:=ihx hx;obtain ⟨m',hm'⟩:=ihy h;refine ⟨max m m',?_⟩;simp only [bothE];rw [evalCode_mono (evalCall_mono (Nat.le_max_left m m')) (Nat.le_refl n) hm];exact evalCode_mono (evalCall_mono (Nat.le_max_right m m')) (Nat.le_refl n) hm'
  ·cases h
 | cond cd x y ihx ihy =>
  intro fr r h;simp only [evalCode] at h ⊢;split at h
  ·exact ihx h
  ·exact ihy h
  ·cases h
 | block id x ih =>
  intro fr r h;simp only [evalCode] at h ⊢;cases hx : evalCode (lim F) n x fr with
  | none => rw [hx] at h; simp at h
  | some q =>
   rw [hx] at h;obtain ⟨m,hm⟩:=ih hx;exact ⟨m,by rw [hm]; exact h⟩
 | loop keep x ih =>
  intro fr r h;simp only [evalCode] at h ⊢;split at h
  ·rename_i fr1 hnorm
   have key : ∀ (k : Nat) (fr : Fr) (r : AEx × Fr),loopN (evalCode (lim F) n x) (norm keep) k fr = some r → ∃ m,loopN (evalCode (evalCall F m) n x) (norm keep) k fr = some r:=by
    intro k;induction k with
    | zero => intro fr r h; simp [loopN] at h
    | succ k ihk =>
     intro fr r h;simp only [loopN] at h ⊢;cases hx : evalCode (lim F) n x fr with
     | none => rw [hx] at h; simp at h
     | some q =>
      rw [hx] at h;obtain ⟨m,hm⟩:=ih hx;obtain ⟨q1,q2⟩:=q;cases q1 with
      | normal =>
       simp only at h;split at h
       ·rename_i fr2 hn2
        obtain ⟨m',hm'⟩:=ihk fr2 r h;refine ⟨max m m',?_⟩;rw [evalCode_mono (evalCall_mono (Nat.le_max_left m m')) (Nat.le_refl n) hm];simp only [hn2];have mono : ∀ (k : Nat) (fr : Fr) (r : AEx × Fr),loopN (evalCode (evalCall F m') n x) (norm keep) k fr = some r → loopN (evalCode (evalCall F (max m m')) n x) (norm keep) k fr = some r:=by
         intro k;induction k with
         | zero => intro fr r h; simp [loopN] at h
         | succ k ihk =>
          intro fr r h;simp only [loopN] at h ⊢;cases hx : evalCode (evalCall F m') n x fr with
          | none => rw [hx] at h; simp at h
          | some q =>
           rw [hx] at h;rw [evalCode_mono (evalCall_mono (Nat.le_max_right m m')) (Nat.le_refl n) hx];obtain ⟨q1,q2⟩:=q;cases q1 with
           | normal =>
            simp only at h ⊢;split at h
            ·exact ihk _ r h
            ·cases h
           | exit i => exact h
           | ret => exact h
        exact mono k fr2 r hm'
       ·cases h
      | exit i => exact ⟨m,by rw [hm]; exact h⟩
      | ret => exact ⟨m,by rw [hm]; exact h⟩
   exact key n fr1 r h
  ·cases h
 | rangeM keep it nx more x ih =>
  intro fr r h;simp only [evalCode,rangeX_eq] at h ⊢;split at h
  ·exact rangeMN_cont ih n _ r h
  ·cases h
 | exit id => intro fr r h; exact ⟨0,h⟩
 | ret => intro fr r h; exact ⟨0,h⟩
theorem lim_intro {n f : Nat} {fn : AFn} {args : List AV} {r : AV × List AV} (hf : F f = some fn) (h : evalFn (lim F) n fn args = some r) : lim F f args = some r:=by
 have h1 : ∃ m,evalFn (evalCall F m) n fn args = some r:=by
  unfold evalFn at h ⊢;split at h
  ·rename_i hcond
   cases hx : evalCode (lim F) n fn.body (enter args) with
   | none => rw [hx] at h; simp at h
   | some q =>
    rw [hx] at h;obtain ⟨m,hm⟩:=evalCode_cont hx;exact ⟨m,by rw [if_pos hcond,hm]; exact h⟩
  ·cases h
 obtain ⟨m,hm⟩:=h1;refine lim_iff.2 ⟨max m n + 1,?_⟩;simp only [evalCall,hf];exact evalFn_mono (evalCall_mono (Nat.le_max_left m n)) (Nat.le_max_right m n) hm
end
theorem lim_of_eval {F : Nat → Option AFn} {n f : Nat} {args : List AV} {r : AV × List AV} (h : evalCall F n f args = some r) : lim F f args = some r:=lim_iff.2 ⟨n,h⟩
end Go.Abs
