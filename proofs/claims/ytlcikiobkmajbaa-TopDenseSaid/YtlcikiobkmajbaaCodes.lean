/-
 What an operation looks at: its temporaries, and the rows that its effect lists.
 Regions: in the order of the text, and in every order that the edges allow.
 Regions, second part.
 Regions, third part: every order.
 At a loop's head: rows get other numbers.
-/
import Derived.Test.YtlcikiobkmajbaaCalls
import Derived.OrdersIn
import Derived.LoopNIn
import Derived.RangeFuncIn
import Derived.RangeFuncCalls
set_option linter.all false
namespace Go.Abs
section
variable {R R' : Nat → Option Row} {T T' : Nat → Option AV}
theorem frzL_local {f f' : AV → Option (AV × List Nat)} (P : Nat → Prop) (hf : ∀ c c' i,f c = some (c',i) → (∀ x ∈ i,P x) → f' c = some (c',i)) : ∀ {cs cs' : List AV} {ids : List Nat},frzL f cs = some (cs',ids) → (∀ x ∈ ids,P x) → frzL f' cs = some (cs',ids)
 | [],cs',ids,h,_ => h
 | c :: r,cs',ids,h,hp => by
  simp only [frzL] at h ⊢;split at h
  ·cases h
  ·rename_i c1 i1 hc
   split at h
   ·cases h
   ·rename_i r1 j1 hr
    simp only [Option.some.injEq,Prod.mk.injEq] at h;obtain ⟨rfl,rfl⟩:=h;rw [hf c c1 i1 hc fun x hx => hp x (List.mem_append_left _ hx)]
    simp only;rw [frzL_local P hf hr fun x hx => hp x (List.mem_append_right _ hx)]
theorem frz_local : ∀ (d : Nat) {a a' : AV} {ids : List Nat},frz R d a = some (a',ids) → (∀ i ∈ ids,R' i = R i) → frz R' d a = some (a',ids)
 | 0,a,a',ids,h,_ => by simp [frz] at h
 | d + 1,a,a',ids,h,hR => by
  cases a with
  | slice id off len =>
   simp only [frz] at h ⊢;split at h
   ·rename_i sz es hr
    split at h
    ·rename_i hl
     simp only [Option.some.injEq,Prod.mk.injEq] at h; obtain ⟨rfl,rfl⟩:=h
     rw [hR id (by simp),hr]
     simp [hl]
    ·cases h
   ·cases h
  | mapp id =>
   simp only [frz] at h ⊢;split at h
   ·rename_i k kv hr
    simp only [Option.some.injEq,Prod.mk.injEq] at h; obtain ⟨rfl,rfl⟩:=h
    rw [hR id (by simp),hr]
   ·cases h
  | ptr id idx off =>
   simp only [frz] at h ⊢;split at h
   ·rename_i cs hr
    split at h
    ·rename_i hz
     split at h
     ·rename_i cs' ids' hf
      simp only [Option.some.injEq,Prod.mk.injEq] at h; obtain ⟨rfl,rfl⟩:=h
      rw [hR id (by simp),hr]
      simp only [hz,if_true];rw [frzL_local (fun i=>R' i = R i) (fun c c' i h hp => frz_local d h hp) hf fun x hx => hR x (List.mem_cons_of_mem _ hx)]
     ·cases h
    ·cases h
   ·rename_i sz es hr
    split at h
    ·rename_i e he
     simp only [Option.some.injEq,Prod.mk.injEq] at h; obtain ⟨rfl,rfl⟩:=h
     rw [hR id (by simp),hr]
     simp only [he]
    ·cases h
   ·cases h
  | agg cs =>
   simp only [frz] at h ⊢;split at h
   ·rename_i cs' ids' hf
    simp only [Option.some.injEq,Prod.mk.injEq] at h; obtain ⟨rfl,rfl⟩:=h
    rw [frzL_local (fun i=>R' i = R i) (fun c c' i h hp => frz_local d h hp) hf hR]
   ·cases h
  | func f cap =>
   simp only [frz] at h ⊢;split at h
   ·rename_i cs' ids' hf
    simp only [Option.some.injEq,Prod.mk.injEq] at h; obtain ⟨rfl,rfl⟩:=h
    rw [frzL_local (fun i=>R' i = R i) (fun c c' i h hp => frz_local d h hp) hf hR]
   ·cases h
  | meth f b =>
   simp only [frz] at h ⊢;split at h
   ·rename_i b' ids' hf
    simp only [Option.some.injEq,Prod.mk.injEq] at h; obtain ⟨rfl,rfl⟩:=h
    rw [frz_local d hf hR]
   ·cases h
  | tabS id len =>
   simp only [frz] at h ⊢;split at h
   ·rename_i sz es hr
    split at h
    ·rename_i hl
     simp only [Option.some.injEq,Prod.mk.injEq] at h; obtain ⟨rfl,rfl⟩:=h
     rw [hR id (by simp),hr]
     simp [hl]
    ·cases h
   ·cases h
  | inS id p len =>
   simp only [frz] at h ⊢;split at h
   ·rename_i q es hr
    split at h
    ·rename_i sz xs hx
     split at h
     ·rename_i hl
      simp only [Option.some.injEq,Prod.mk.injEq] at h; obtain ⟨rfl,rfl⟩:=h
      rw [hR id (by simp),hr]
      simp only [hx,hl,if_true]
     ·cases h
    ·cases h
   ·cases h
  | _ => exact h
theorem exCell_local {a : AV} {x : Ex} (h : exCell R a = some x) (hR : ∀ i ∈ x.mv ++ x.fz,R' i = R i) : exCell R' a = some x:=by
 unfold exCell at h ⊢;split at h
 ·exact h
 ·rename_i id off len
  split at h
  ·rename_i sz es hr
   split at h
   ·rename_i hc
    simp at h; subst h
    rw [hR id (by simp),hr]
    simp [hc]
   ·rename_i hc
    split at h
    ·rename_i hc2
     simp at h; subst h
     rw [hR id (by simp),hr]
     simp only;rw [if_neg hc,if_pos hc2]
    rename_i hc2;split at h
    ·rename_i hle
     simp at h; subst h
     rw [hR id (by simp),hr]
     simp only;rw [if_neg hc,if_neg hc2,if_pos hle]
    ·cases h
  ·cases h
 ·cases h
 ·cases h
 ·exact h
 ·rename_i id
  split at h
  ·rename_i row hr
   split at h
   ·rename_i ks keys vals ha
    simp at h; subst h
    rw [hR id (by simp),hr]
    simp only [ha]
   ·cases h
  ·cases h
 ·rename_i id len
  split at h
  ·rename_i sz es hr
   split at h
   ·rename_i hl
    simp only [Option.some.injEq] at h; subst h
    rw [hR id (by simp),hr]
    simp [hl]
   ·cases h
  ·cases h
 ·split at h
  ·rename_i v' ids hf
   simp at h; subst h
   rw [frz_local _ hf fun i hi => hR i (by simpa using hi)]
  ·cases h
theorem exL_local {f f' : AV → Option Ex} (P : Nat → Prop) (hf : ∀ c x,f c = some x → (∀ i ∈ x.mv ++ x.fz,P i) → f' c = some x) : ∀ {cs : List AV} {r : List AV × List Nat × List Nat},exL f cs = some r → (∀ i ∈ r.2.1 ++ r.2.2,P i) → exL f' cs = some r
 | [],r,h,_ => h
 | c :: cs,r,h,hp => by
  simp only [exL] at h ⊢;split at h
  ·cases h
  ·rename_i x hx
   split at h
   ·cases h
   ·rename_i ys m z hy
    simp only [Option.some.injEq] at h;subst h;simp only [List.mem_append] at hp;rw [hf c x hx fun i hi => hp i (by simp only [List.mem_append] at hi; rcases hi with hi | hi <;> simp [hi])]
    simp only;rw [exL_local P hf hy fun i hi => hp i (by simp only [List.mem_append] at hi; rcases hi with hi | hi <;> simp [hi])]
theorem lendArg_local {b : Bool} {x : AV} {l : Lent} (h : lendArg R b x = some l) (hR : ∀ i ∈ l.mv ++ l.fz,R' i = R i) : lendArg R' b x = some l:=by
 unfold lendArg at h ⊢;split at h
 ·rename_i q
  unfold lendLog at h ⊢;split at h
  ·rename_i m hq
   split at h
   ·rename_i k xs hm
    simp only [Option.some.injEq] at h; subst h
    rw [hR q (by simp),hq]
    simp only;rw [hR m (by simp),hm]
   ·cases h
  ·cases h
 ·skip
  split at h
  ·rename_i hb
   simp only [hb,if_true];split at h
   ·rename_i id _
    split at h
    ·rename_i cs hr
     split at h
     ·rename_i cs' m z hx
      simp only [Option.some.injEq] at h; subst h
      rw [hR id (by simp),hr]
      simp only;rw [exL_local (fun i=>R' i = R i) (fun c x h hp => exCell_local h hp) hx fun i hi => hR i (by simp only [List.mem_append,List.mem_cons] at hi ⊢; rcases hi with hi | hi <;> simp [hi])]
     ·cases h
    ·cases h
   ·rename_i id len _
    split at h
    ·rename_i sz es hr
     split at h
     ·rename_i hl
      simp only [Option.some.injEq] at h; subst h
      rw [hR id (by simp),hr]
      simp [hl]
     ·cases h
    ·cases h
   ·rename_i id _
    split at h
    ·rename_i row hr
     split at h
     ·rename_i ks keys vals ha
      simp only [Option.some.injEq] at h; subst h
      rw [hR id (by simp),hr]
      simp only [ha]
     ·cases h
    ·cases h
   ·cases h
  ·rename_i hb
   simp only [hb];split at h
   ·rename_i v' ids hf
    simp only [Option.some.injEq] at h; subst h
    rw [frz_local _ hf fun i hi => hR i (by simpa using hi)]
    rfl
   ·cases h
theorem giveArg_local {x : AV} {l : Lent} (h : giveArg R x = some l) (hR : ∀ i ∈ l.mv ++ l.fz,R' i = R i) : giveArg R' x = some l:=by
 unfold giveArg at h ⊢;split at h
 ·rename_i id len
  split at h
  ·rename_i sz es hr
   split at h
   ·rename_i hl
    simp only [Option.some.injEq] at h; subst h
    rw [hR id (by simp),hr]
    simp [hl]
   ·cases h
  ·cases h
 ·cases h
theorem passArg_local {bor : List Nat} {i : Nat} {x : AV} {l : Lent} (h : passArg R bor i x = some l) (hR : ∀ i ∈ l.mv ++ l.fz,R' i = R i) : passArg R' bor i x = some l:=by
 unfold passArg at h ⊢;split at h
 ·rename_i hb; rw [if_pos hb]; exact giveArg_local h hR
 ·rename_i hb; rw [if_neg hb]; exact lendArg_local h hR
theorem lendArgs_local {bor : List Nat} : ∀ {xs : List AV} {k : Nat} {l : Lent},lendArgs R bor k xs = some l → (∀ i ∈ l.mv ++ l.fz,R' i = R i) → lendArgs R' bor k xs = some l
 | [],k,l,h,_ => h
 | x :: xs,k,l,h,hR => by
  simp only [lendArgs] at h ⊢;split at h
  ·cases h
  ·rename_i la hla
   split at h
   ·cases h
   ·rename_i lb hlb
    simp only [Option.some.injEq] at h; subst h
    simp only [List.mem_append] at hR;rw [passArg_local hla fun i hi => hR i (by simp only [List.mem_append] at hi; rcases hi with hi | hi <;> simp [hi])]
    simp only;rw [lendArgs_local hlb fun i hi => hR i (by simp only [List.mem_append] at hi; rcases hi with hi | hi <;> simp [hi])]
theorem lendArgs_out {bor : List Nat} : ∀ {xs : List AV} {k : Nat} {l : Lent},lendArgs R bor k xs = some l → ∀ i ∈ l.out,i ∈ l.mv
 | [],k,l,h => by simp [lendArgs] at h; subst h; simp
 | x :: xs,k,l,h => by
  simp only [lendArgs] at h;split at h
  ·cases h
  ·rename_i la hla
   split at h
   ·cases h
   ·rename_i lb hlb
    simp only [Option.some.injEq] at h; subst h
    have ih:=lendArgs_out hlb;intro i hi;rcases List.mem_append.1 hi with hi | hi
    ·refine List.mem_append_left _ ?_
     unfold passArg at hla;split at hla
     ·unfold giveArg at hla
      split at hla
      ·split at hla
       ·split at hla
        ·simp only [Option.some.injEq] at hla; subst hla; simp at hi
        ·cases hla
       ·cases hla
      ·cases hla
     unfold lendArg at hla;split at hla
     ·unfold lendLog at hla
      split at hla
      ·split at hla
       ·simp only [Option.some.injEq] at hla; subst hla; simp at hi; simp [hi]
       ·cases hla
      ·cases hla
     split at hla
     ·split at hla
      ·split at hla
       ·split at hla
        ·simp only [Option.some.injEq] at hla; subst hla; simp at hi; simp [hi]
        ·cases hla
       ·cases hla
      ·split at hla
       ·split at hla
        ·simp only [Option.some.injEq] at hla; subst hla; simpa using hi
        ·cases hla
       ·cases hla
      ·split at hla
       ·split at hla
        ·simp only [Option.some.injEq] at hla; subst hla; simpa using hi
        ·cases hla
       ·cases hla
      ·cases hla
     ·split at hla
      ·simp only [Option.some.injEq] at hla; subst hla; simp at hi
      ·cases hla
    ·exact List.mem_append_right _ (ih i hi)
theorem backs_local : ∀ {out : List Nat} {outs : List AV} {n : Nat},(∀ i ∈ out,R' i = R i) → backs R' n out outs = backs R n out outs
 | [],outs,n,_ => by cases outs <;> rfl
 | id :: ids,outs,n,h => by
  cases outs with
  | nil => rfl
  | cons x outs =>
   have h0:=h id (by simp)
   have ih : ∀ n,backs R' n ids outs = backs R n ids outs:=fun n=>backs_local fun i hi => h i (List.mem_cons_of_mem _ hi)
   cases x <;> simp only [backs,h0,ih]
theorem elemsOf_local {sz : Nat} {v : AV} {r : List AV × List Nat} (h : elemsOf R sz v = some r) (hR : ∀ i ∈ r.2,R' i = R i) : elemsOf R' sz v = some r:=by
 unfold elemsOf at h ⊢;split at h
 ·exact h
 ·exact h
 ·rename_i id off len
  split at h
  ·rename_i sz' es hr
   split at h
   ·rename_i hc
    simp only [Option.some.injEq] at h; subst h
    rw [hR id (by simp),hr]
    simp [hc]
   ·cases h
  ·cases h
 ·rename_i id p len
  split at h
  ·rename_i q es hr
   split at h
   ·rename_i sz' xs hx
    split at h
    ·rename_i hc
     simp only [Option.some.injEq] at h; subst h
     rw [hR id (by simp),hr]
     simp only [hx,hc,and_self,if_true]
    ·cases h
   ·cases h
  ·cases h
 ·cases h
theorem tabIn_local {a : AV} {r : AV × List Nat} (h : tabIn R a = some r) (hR : ∀ i ∈ r.2,R' i = R i) : tabIn R' a = some r:=by
 unfold tabIn at h ⊢;split at h
 ·exact h
 ·rename_i id len
  split at h
  ·rename_i es hr
   split at h
   ·rename_i hc
    simp only [Option.some.injEq] at h; subst h
    rw [hR id (by simp),hr]
    simp only [hc,and_self,if_true]
   ·cases h
  ·cases h
 ·exact h
theorem tabEl_local {a : AV} {r : AV × List Nat} (h : tabEl R a = some r) (hR : ∀ i ∈ r.2,R' i = R i) : tabEl R' a = some r:=by
 unfold tabEl at h ⊢;split at h
 ·split at h
  ·rename_i cs' ids hf
   simp only [Option.some.injEq] at h; subst h
   rw [frzL_local (fun i=>R' i = R i) (fun c c' i h hp => tabIn_local h hp) hf hR]
  ·cases h
 ·exact tabIn_local h hR
theorem mkList_parts {g : AOpd → Option AV} : ∀ {ps : List (Nat × AOpd)} {qs : List (Nat × AV × List Nat)},mapO (mkPart g R) ps = some qs → (∀ i ∈ qs.flatMap (fun p=>p.2.2),R' i = R i) → mapO (mkPart g R') ps = some qs
 | [],qs,h,_ => h
 | p :: ps,qs,h,hR => by
  simp only [mapO] at h ⊢;split at h
  ·cases h
  ·rename_i y hy
   split at h
   ·cases h
   ·rename_i ys hys
    simp only [Option.some.injEq] at h;subst h;simp only [List.flatMap_cons,List.mem_append] at hR;rw [mkList_parts hys fun i hi => hR i (.inr hi)]
    have : mkPart g R' p = some y:=by
     unfold mkPart at hy ⊢;split at hy
     ·rename_i v hv
      split at hy
      ·rename_i v' ids hf
       simp only [Option.some.injEq] at hy;subst hy;rw [frz_local _ hf fun i hi => hR i (.inl hi)]
      ·cases hy
     ·cases hy
    rw [this]
theorem evCallF_local {call : CallF} {s : Nat} {bor : List Nat} {f : Nat} {xs : List AV} {e : Eff} (h : evCallF call s R bor f xs = some e) (hR : ∀ i ∈ e.rd,R' i = R i) : evCallF call s R' bor f xs = some e:=by
 unfold evCallF at h ⊢;split at h
 ·rename_i l hl
  split at h
  ·rename_i hnd
   split at h
   ·rename_i res outs hc
    simp only at h;split at h
    ·rename_i rs n hb
     split at h
     ·rename_i hn
      simp only [Option.some.injEq] at h; subst h
      rw [lendArgs_local hl hR];simp only [hnd,if_true,hc];rw [backs_local (R:=R) fun i hi => hR i (List.mem_append_left _ (lendArgs_out hl i hi)),hb]
      simp only [hn,if_true]
     ·cases h
    ·cases h
   ·cases h
  ·cases h
 ·cases h
theorem evalOp_local {call : CallF} {s : Nat} {g : AOpd → Option AV} {op : AOp} {e : Eff} (h : evalOp call s g R op = some e) (hR : ∀ i ∈ e.rd,R' i = R i) : evalOp call s g R' op = some e:=by
 cases op <;> simp only [evalOp] at h ⊢ <;> try exact h
 case mkList sz zero len parts =>
  unfold evMkList at h ⊢;split at h
  ·rename_i ps hps
   split at h
   ·rename_i es hes
    split at h
    ·rename_i hl
     simp only [Option.some.injEq] at h; subst h
     by_cases hp : parts = []
     ·subst hp; simp [mapO] at hps; subst hps; simp [mapO] at hes ⊢; simp [setElems,hl] at hes ⊢
     ·exfalso
      obtain ⟨l1,_⟩:=mapO_spec hps;subst hl;cases ps with
      | nil => simp at l1; exact hp (List.eq_nil_of_length_eq_zero l1.symm)
      | cons p ps => simp [setElems] at hes
    ·rename_i hl
     simp only [Option.some.injEq] at h; subst h
     rw [mkList_parts hps hR];simp only [hes,hl,if_false]
   ·cases h
  ·cases h
 case load n ag x =>
  unfold evLoad at h ⊢;split at h
  ·exact h
  ·rename_i id idx off hg
   split at h
   ·rename_i sz es hr
    split at h
    ·rename_i y hy
     split at h
     ·rename_i v hp
      simp only [Option.some.injEq] at h; subst h
      simp only [hR id (by simp),hr,hy,hp]
     ·cases h
    ·cases h
   ·rename_i cs hr
    split at h
    ·rename_i hz
     split at h
     ·rename_i v hp
      simp only [Option.some.injEq] at h; subst h
      simp only [hR id (by simp),hr,hz,hp,if_true]
     ·cases h
    ·cases h
   ·cases h
  ·rename_i id idx off hg
   split at h
   ·rename_i sz es hr
    split at h
    ·rename_i y hy
     split at h
     ·rename_i v hp
      simp only [Option.some.injEq] at h; subst h
      simp only [hR id (by simp),hr,hy,hp]
     ·cases h
    ·cases h
   ·cases h
  ·rename_i id p j hg
   split at h
   ·rename_i sz es hr
    split at h
    ·rename_i q xs hx
     split at h
     ·rename_i y hy
      split at h
      ·rename_i hc
       simp only [Option.some.injEq] at h; subst h
       simp only [hR id (by simp),hr,hx,hy,hc,and_self,if_true]
      ·cases h
     ·cases h
    ·cases h
   ·cases h
  ·cases h
 case store n x y =>
  unfold evStore at h ⊢;split at h
  ·rename_i id idx off v hgx hgy
   split at h
   ·rename_i hc
    simp only [hc,and_self,if_true];split at h
    ·rename_i sz es hr
     split at h
     ·rename_i el hel
      split at h
      ·rename_i hoff
       split at h
       ·rename_i xs ids hf
        split at h
        ·rename_i el' hre
         split at h
         ·cases h
         ·rename_i hni
          simp only [Option.some.injEq] at h; subst h
          rw [hR id (by simp),hr]
          simp only [hel,hoff,if_true];rw [frzL_local (fun i=>R' i = R i) (fun c c' i h hp => frz_local _ h hp) hf fun x hx => hR x (List.mem_cons_of_mem _ hx)]
          simp only [hre,hni];rfl
        ·cases h
       ·cases h
      ·cases h
     ·cases h
    ·rename_i cs hr
     split at h
     ·rename_i hz
      simp only [Option.some.injEq] at h; subst h
      rw [hR id (by simp),hr]
      simp only [hz,and_self,if_true]
     ·cases h
    ·cases h
   ·cases h
  ·rename_i id p j v hgx hgy
   split at h
   ·rename_i sz es hr
    split at h
    ·rename_i q xs hx
     split at h
     ·rename_i hc
      simp only [Option.some.injEq] at h; subst h
      simp only [hR id (by simp),hr,hx]
      rw [if_pos hc]
     ·cases h
    ·cases h
   ·cases h
  ·cases h
 case mkTab sz parts =>
  unfold evMkTab at h ⊢;split at h
  ·rename_i vs hvs
   split at h
   ·rename_i es ids hes
    split at h
    ·rename_i hc
     simp only [Option.some.injEq] at h; subst h
     rw [frzL_local (fun i=>R' i = R i) (fun c c' i h hp => tabEl_local h hp) hes hR]
     simp only [hc,if_true]
    ·cases h
   ·cases h
  ·cases h
 case appTab sz d x =>
  unfold evAppTab at h ⊢;split at h
  ·rename_i i n j m hgd hgx
   split at h
   ·rename_i sz1 es sz2 xs hri hrj
    split at h
    ·rename_i hc
     simp only [Option.some.injEq] at h; subst h
     rw [hR i (by simp),hR j (by simp),hri,hrj]
     simp only;rw [if_pos hc]
    ·cases h
   ·cases h
  ·cases h
 case slice sz x lo hi =>
  unfold evSlice at h ⊢;split at h
  ·split at h
   ·rename_i id off len hh hgh hgx
    split at h
    ·rename_i sz' es hr
     split at h
     ·split at h
      ·rename_i hc
       simp only [Option.some.injEq] at h; subst h
       simp only [hR id (by simp),hr]
       simp_all
      ·cases h
     ·cases h
    ·cases h
   ·exact h
   ·exact h
   ·cases h
  ·cases h
 case indexA sz x i =>
  unfold evIndexA at h ⊢;split at h
  ·rename_i id off len k m hg hgi
   split at h
   ·rename_i sz' es hr
    split at h
    ·rename_i hc
     simp only [Option.some.injEq] at h; subst h
     simp only [hR id (by simp),hr,hc,and_self,if_true]
    ·cases h
   ·cases h
  ·exact h
  ·rename_i id len k m hg hgi
   split at h
   ·rename_i sz' es hr
    split at h
    ·rename_i hc
     simp only [Option.some.injEq] at h; subst h
     simp only [hR id (by simp),hr]
     rw [if_pos hc]
    ·cases h
   ·cases h
  ·rename_i id p len k m hg hgi
   split at h
   ·rename_i q es hr
    split at h
    ·rename_i hc
     simp only [Option.some.injEq] at h; subst h
     simp only [hR id (by simp),hr]
     rw [if_pos hc]
    ·cases h
   ·cases h
  ·cases h
 case append sz d x =>
  unfold evAppend at h ⊢;split at h
  ·rename_i dv xv hgd hgx
   generalize unNil dv = dv at h ⊢;split at h
   ·rename_i xs ids hxs
    split at h
    ·rename_i sz0
     split at h
     ·rename_i hle
      simp only [Option.some.injEq] at h; subst h
      rw [elemsOf_local hxs hR];simp [hle]
     ·cases h
    ·rename_i id off len
     split at h
     ·rename_i sz' es hr
      split at h
      ·rename_i hc
       split at h
       ·rename_i hfull
        split at h
        ·rename_i hle
         simp only [Option.some.injEq] at h; subst h
         rw [elemsOf_local hxs fun i hi => hR i (List.mem_cons_of_mem _ hi)]
         simp only;rw [hR id (by simp),hr]
         simp only [hc,and_self,hfull,if_true];rw [if_pos (by rw [← hfull]; exact hle)]
        ·cases h
       ·rename_i hnf
        split at h
        ·rename_i hle
         simp only [Option.some.injEq] at h; subst h
         rw [elemsOf_local hxs fun i hi => hR i (List.mem_cons_of_mem _ hi)]
         simp only;rw [hR id (by simp),hr]
         simp only [hc,and_self,if_true,hnf,if_false,hle]
        ·cases h
      ·cases h
     ·cases h
    ·rename_i szc es
     split at h
     ·rename_i hc
      simp only [Option.some.injEq] at h; subst h
      rw [elemsOf_local hxs hR];simp only;rw [if_pos hc]
     ·cases h
    ·cases h
   ·cases h
  ·cases h
 case appZ sz z d x =>
  unfold evAppY at h ⊢;split at h
  ·split at h
   ·rename_i hn
    simp only [hn,if_true]; exact h
   ·rename_i hn
    simp only [hn];unfold evAppW at h ⊢;split at h
    ·split at h
     ·rename_i sz' es hr
      split at h
      ·rename_i hc
       simp only [Option.some.injEq] at h; subst h
       simp only [Bool.false_eq_true,if_false];rw [hR _ (List.mem_singleton.2 rfl),hr];simp only [if_pos hc]
      ·cases h
     ·cases h
    ·cases h
  ·cases h
 case copyB sz d x =>
  unfold evCopy at h ⊢;split at h
  ·rename_i id off len xv hgd hgx
   split at h
   ·rename_i xs ids hxs
    split at h
    ·rename_i sz' es hr
     split at h
     ·rename_i hc
      split at h
      ·rename_i hm
       simp only [Option.some.injEq] at h; subst h
       rw [elemsOf_local hxs fun i hi => hR i (List.mem_cons_of_mem _ hi)]
       simp only;rw [hR id (by simp),hr]
       simp only [hc,and_self,if_true,hm]
      ·rename_i hm
       simp only [Option.some.injEq] at h; subst h
       rw [elemsOf_local hxs fun i hi => hR i (List.mem_cons_of_mem _ hi)]
       simp only;rw [hR id (by simp),hr]
       simp only [hc,and_self,if_true,hm,if_false]
     ·cases h
    ·cases h
   ·cases h
  ·cases h
 case clear sz z x =>
  split at h
  ·rename_i id off len hg
   split at h
   ·rename_i sz' es hr
    split at h
    ·rename_i hl0
     simp only [Option.some.injEq] at h; subst h
     rw [hR id (by simp),hr]
     simp [hl0]
    ·rename_i hl0
     split at h
     ·rename_i hc
      simp only [Option.some.injEq] at h; subst h
      rw [hR id (by simp),hr]
      simp only;rw [if_neg hl0,if_pos hc]
     ·cases h
   ·cases h
  ·cases h
 case call f args bor =>
  unfold evCall at h ⊢;split at h
  ·rename_i q vs hgf hgv
   unfold evYield at h ⊢;split at h
   ·rename_i m hq
    split at h
    ·rename_i k xs hm
     split at h
     ·rename_i vs' ids hfz
      split at h
      ·rename_i bb xs' hst
       split at h
       ·cases h
       ·rename_i hmi
        simp only [Option.some.injEq] at h; subst h
        rw [hR q (by simp),hq]
        simp only;rw [hR m (by simp),hm]
        simp only;rw [frzL_local (fun i=>R' i = R i) (fun c c' i h hp => frz_local _ h hp) hfz fun x hx => hR x (by simp [hx])]
        simp only [hst];rw [if_neg hmi]
      ·cases h
     ·cases h
    ·cases h
   ·cases h
  ·exact evCallF_local h hR
  ·exact evCallF_local h hR
  ·cases h
 case mapSet kk m k x =>
  unfold evMapSet at h ⊢;split at h
  ·rename_i id kk' n v hgm hgk hgx
   split at h
   ·rename_i hc
    split at h
    ·rename_i k0 kv hr
     split at h
     ·rename_i hk0
      simp only [Option.some.injEq] at h; subst h
      simp only [hc,and_self,if_true,hR id (by simp),hr,hk0]
     ·cases h
    ·cases h
   ·cases h
  ·cases h
 case mapGet kk z ok m k =>
  unfold evMapGet at h ⊢;split at h
  ·rename_i id kk' n hgm hgk
   split at h
   ·rename_i hc
    split at h
    ·rename_i k0 kv hr
     split at h
     ·rename_i hk0
      split at h
      ·rename_i v hv
       simp only [Option.some.injEq] at h; subst h
       simp only [hc,if_true,hR id (by simp),hr,hk0,hv]
      ·rename_i hv
       simp only [Option.some.injEq] at h; subst h
       simp only [hc,if_true,hR id (by simp),hr,hk0,hv]
     ·cases h
    ·cases h
   ·cases h
  ·rename_i k0 keys vals kk' n hgm hgk
   split at h
   ·rename_i hc
    split at h
    ·rename_i v hv
     simp only [Option.some.injEq] at h; subst h
     rw [if_pos hc]
    ·rename_i hv
     simp only [Option.some.injEq] at h; subst h
     rw [if_pos hc]
   ·cases h
  ·rename_i v kk' n hgm hgk
   split at h
   ·rename_i hc
    simp only [Option.some.injEq] at h; subst h
    rw [if_pos hc]
   ·cases h
  ·cases h
 case strOf x =>
  unfold evStrOf at h ⊢;split at h
  ·split at h
   ·rename_i es ids hes
    split at h
    ·rename_i l hl
     simp only [Option.some.injEq] at h; subst h
     rw [elemsOf_local hes hR];simp only [hl]
    ·cases h
   ·cases h
  ·cases h
 case mapLen m =>
  unfold evMapLen at h ⊢;split at h
  ·rename_i id hgm
   split at h
   ·rename_i k0 kv hr
    simp only [Option.some.injEq] at h; subst h
    simp only [hR id (by simp),hr]
   ·cases h
  ·exact h
  ·cases h
 case mapDel kk m k =>
  unfold evMapDel at h ⊢;split at h
  ·rename_i id kk' n hgm hgk
   split at h
   ·rename_i hc
    split at h
    ·rename_i k0 kv hr
     split at h
     ·rename_i hk0
      simp only [Option.some.injEq] at h; subst h
      simp only [hc,if_true,hR id (by simp),hr,hk0]
     ·cases h
    ·cases h
   ·cases h
  ·cases h
 case mapSetS ks m k x =>
  unfold evMapSetS at h ⊢;split at h
  ·rename_i id cs v hgm hgk hgx
   split at h
   ·rename_i hc
    split at h
    ·rename_i k0 keys vals hr
     split at h
     ·rename_i hk0
      split at h
      ·rename_i i hf
       simp only [Option.some.injEq] at h; subst h
       rw [if_pos hc,hR id (by simp),hr]
       simp only [hk0,if_true,hf]
      ·rename_i hf
       simp only [Option.some.injEq] at h; subst h
       rw [if_pos hc,hR id (by simp),hr]
       simp only [hk0,if_true,hf]
      ·cases h
     ·cases h
    ·cases h
   ·cases h
  ·cases h
 case mapSetV kk m k x =>
  unfold evMapSetV at h ⊢;split at h
  ·rename_i id kk' n v hgm hgk hgx
   split at h
   ·rename_i hc
    split at h
    ·rename_i k0 kv hr
     split at h
     ·rename_i hk0
      split at h
      ·rename_i hf
       simp only [Option.some.injEq] at h; subst h
       rw [if_pos hc,hR id (by simp),hr]
       simp only [hk0,if_true,hf]
      ·cases h
     ·cases h
    ·cases h
   ·cases h
  ·cases h
 case rangeI m =>
  unfold evRangeI at h ⊢;split at h
  ·rename_i id hgm
   split at h
   ·rename_i k kv hr
    split at h
    ·cases h
    ·rename_i hne
     simp only [Option.some.injEq] at h; subst h
     rw [hR id (by simp),hr]
     simp only [hne,if_false]
   ·rename_i ks keys vals hr
    split at h
    ·cases h
    ·rename_i hne
     simp only [Option.some.injEq] at h; subst h
     rw [hR id (by simp),hr]
     simp only [hne,if_false]
   ·cases h
  ·cases h
 case mapEnt ks z m k =>
  unfold evMapEnt at h ⊢;split at h
  ·rename_i id cs hgm hgk
   split at h
   ·rename_i hc
    split at h
    ·rename_i k0 keys vals hr
     split at h
     ·rename_i hk0
      split at h
      ·rename_i i hf
       split at h
       ·rename_i v hv
        simp only [Option.some.injEq] at h; subst h
        rw [if_pos hc,hR id (by simp),hr]
        simp only [hk0,if_true,hf,hv]
       ·cases h
      ·rename_i hf
       simp only [Option.some.injEq] at h; subst h
       rw [if_pos hc,hR id (by simp),hr]
       simp only [hk0,if_true,hf]
      ·cases h
     ·cases h
    ·cases h
   ·cases h
  ·cases h
 case entSt m st x =>
  unfold evEntSt at h ⊢;split at h
  ·rename_i id sn v hgm hgs hgx
   split at h
   ·rename_i hc
    split at h
    ·rename_i ks keys vals i s' hr
     split at h
     ·rename_i hk0
      simp only [Option.some.injEq] at h; subst h
      rw [if_pos hc,hR id (by simp),hr]
      simp only [hk0,if_true]
     ·cases h
    ·cases h
   ·cases h
  ·cases h
 case entry it =>
  unfold evEntry at h ⊢;split at h
  ·rename_i id hgi
   split at h
   ·rename_i left x hr
    simp only [Option.some.injEq] at h; subst h
    rw [hR id (by simp),hr]
   ·cases h
  ·cases h
 case mapGetS ks zero ok m k =>
  unfold evMapGetS at h ⊢;split at h
  ·rename_i id cs hgm hgk
   split at h
   ·rename_i hc
    have hrd : ∀ {k0 : List Bool} {keys : List (List AV)} {vals : List AV},mapGetR ks cs zero ok id k0 keys vals = some e → e.rd = [id]:=by
     intro k0 keys vals h;unfold mapGetR at h;split at h
     ·split at h
      ·split at h
       ·simp only [Option.some.injEq] at h; subst h; rfl
       ·cases h
      ·simp only [Option.some.injEq] at h; subst h; rfl
      ·cases h
     ·cases h
    split at h
    ·rename_i k0 keys vals hr
     have hR':=hR id (by rw [hrd h]; simp)
     rw [if_pos hc,hR',hr];exact h
    ·rename_i k0 keys vals i0 s0 hr
     have hR':=hR id (by rw [hrd h]; simp)
     rw [if_pos hc,hR',hr];exact h
    ·cases h
   ·cases h
  ·cases h
end
end Go.Abs
namespace Go.Abs
theorem mapO_congr {α β : Type} {f g : α → Option β} : ∀ {l : List α},(∀ x ∈ l,f x = g x) → mapO f l = mapO g l
 | [],_ => rfl
 | x :: l,h => by
  simp only [mapO];rw [h x (by simp),mapO_congr fun y hy => h y (List.mem_cons_of_mem _ hy)]
section
variable {R R' : Nat → Option Row} {T T' : Nat → Option AV}
theorem Yq {x : AOpd} (h : ∀ t ∈ x.temps,T' t = T t) : getO T' x = getO T x:=by
 cases x with
 | tmp t => exact h t (by simp [AOpd.temps])
 | lit v => rfl
theorem evalOp_congr {call : CallF} {s : Nat} {op : AOp} (h : ∀ t ∈ op.temps,T' t = T t) : evalOp call s (getO T') R op = evalOp call s (getO T) R op:=by
 cases op;case build z ps =>
  simp only [evalOp];rw [mapO_congr (g:=bdPart (getO T)) fun p hp => by
   unfold bdPart;rw [Yq fun t ht => h t (by simp only [AOp.temps,List.mem_flatMap]; exact ⟨p,hp,ht⟩)]]
 case mkList sz z len ps =>
  simp only [evalOp,evMkList];rw [mapO_congr (g:=mkPart (getO T) R) fun p hp => by
   unfold mkPart;rw [Yq fun t ht => h t (by simp only [AOp.temps,List.mem_flatMap]; exact ⟨p,hp,ht⟩)]]
 case fn f xs =>
  simp only [evalOp];rw [mapO_congr (g:=getO T) fun p hp => Yq fun t ht => h t (by simp only [AOp.temps,List.mem_flatMap]; exact ⟨p,hp,ht⟩)]
 case mkTab sz xs =>
  simp only [evalOp,evMkTab];rw [mapO_congr (g:=getO T) fun p hp => Yq fun t ht => h t (by simp only [AOp.temps,List.mem_flatMap]; exact ⟨p,hp,ht⟩)]
 case appTab sz d x =>
  simp only [evalOp,evAppTab];rw [Yq (x:=d) fun t ht => h t (by simp [AOp.temps,ht]),Yq (x:=x) fun t ht => h t (by simp [AOp.temps,ht])]
 case minmax b xs =>
  simp only [evalOp];rw [mapO_congr (g:=i64Of (getO T)) fun p hp => by
   unfold i64Of;rw [Yq fun t ht => h t (by simp only [AOp.temps,List.mem_flatMap]; exact ⟨p,hp,ht⟩)]]
 case call f xs bor =>
  simp only [evalOp,evCall];rw [Yq (x:=f) fun t ht => h t (by simp [AOp.temps,ht]),
   mapO_congr (g:=getO T) fun p hp => Yq fun t ht => h t (by simp only [AOp.temps,List.mem_append,List.mem_flatMap]; exact .inr ⟨p,hp,ht⟩)]
 case slice sz x lo hi =>
  have hx:=Yq (x:=x) fun t ht => h t (by simp [AOp.temps,ht])
  have hlo : ∀ y,lo = some y → getO T' y = getO T y:=fun y hy => Yq fun t ht => h t (by simp [AOp.temps,hy,optTemps,ht])
  have hhi : ∀ y,hi = some y → getO T' y = getO T y:=fun y hy => Yq fun t ht => h t (by simp [AOp.temps,hy,optTemps,ht])
  simp only [evalOp,evSlice];rw [hx];cases lo with
  | none => cases hi with
   | none => rfl
   | some y => simp only [hhi y rfl]
  | some z => cases hi with
   | none => simp only [hlo z rfl]
   | some y => simp only [hlo z rfl,hhi y rfl]
 case mapSet k x y z =>
  simp only [evalOp,evMapSet];rw [Yq (x:=x) fun t ht => h t (by simp [AOp.temps,ht]),Yq (x:=y) fun t ht => h t (by simp [AOp.temps,ht]),Yq (x:=z) fun t ht => h t (by simp [AOp.temps,ht])]
 case pick c x y =>
  simp only [evalOp];rw [Yq (x:=c) fun t ht => h t (by simp [AOp.temps,ht]),Yq (x:=x) fun t ht => h t (by simp [AOp.temps,ht]),Yq (x:=y) fun t ht => h t (by simp [AOp.temps,ht])]
 case alloc => rfl
 case mkMap => rfl
 case mkMapS => rfl
 case mkMapV => rfl
 case copyB n x y => simp only [evalOp,evCopy]; rw [Yq (x:=x) fun t ht => h t (by simp [AOp.temps,ht]),Yq (x:=y) fun t ht => h t (by simp [AOp.temps,ht])]
 case capN x => simp only [evalOp,evCapN]; rw [Yq (x:=x) fun t ht => h t (by simp [AOp.temps,ht])]
 case appZ n z x y => simp only [evalOp,evAppY,evAppZ]; rw [Yq (x:=x) fun t ht => h t (by simp [AOp.temps,ht]),Yq (x:=y) fun t ht => h t (by simp [AOp.temps,ht])]
 case mapSetV k x y z =>
  simp only [evalOp,evMapSetV];rw [Yq (x:=x) fun t ht => h t (by simp [AOp.temps,ht]),Yq (x:=y) fun t ht => h t (by simp [AOp.temps,ht]),Yq (x:=z) fun t ht => h t (by simp [AOp.temps,ht])]
 case rangeI x => simp only [evalOp,evRangeI]; rw [Yq (x:=x) fun t ht => h t (by simp [AOp.temps,ht])]
 case entry x => simp only [evalOp,evEntry]; rw [Yq (x:=x) fun t ht => h t (by simp [AOp.temps,ht])]
 case mapEnt k z x y => simp only [evalOp,evMapEnt]; rw [Yq (x:=x) fun t ht => h t (by simp [AOp.temps,ht]),Yq (x:=y) fun t ht => h t (by simp [AOp.temps,ht])]
 case entSt x y z =>
  simp only [evalOp,evEntSt];rw [Yq (x:=x) fun t ht => h t (by simp [AOp.temps,ht]),Yq (x:=y) fun t ht => h t (by simp [AOp.temps,ht]),Yq (x:=z) fun t ht => h t (by simp [AOp.temps,ht])]
 case mapSetS k x y z =>
  simp only [evalOp,evMapSetS];rw [Yq (x:=x) fun t ht => h t (by simp [AOp.temps,ht]),Yq (x:=y) fun t ht => h t (by simp [AOp.temps,ht]),Yq (x:=z) fun t ht => h t (by simp [AOp.temps,ht])]
 case mapGetS k z ok x y => simp only [evalOp,evMapGetS]; rw [Yq (x:=x) fun t ht => h t (by simp [AOp.temps,ht]),Yq (x:=y) fun t ht => h t (by simp [AOp.temps,ht])]
 case mapLen x => simp only [evalOp,evMapLen]; rw [Yq (x:=x) fun t ht => h t (by simp [AOp.temps,ht])]
 case mapDel k x y => simp only [evalOp,evMapDel]; rw [Yq (x:=x) fun t ht => h t (by simp [AOp.temps,ht]),Yq (x:=y) fun t ht => h t (by simp [AOp.temps,ht])]
 case load n ag x => simp only [evalOp,evLoad]; rw [Yq (x:=x) fun t ht => h t (by simp [AOp.temps,ht])]
 case store n x y => simp only [evalOp,evStore]; rw [Yq (x:=x) fun t ht => h t (by simp [AOp.temps,ht]),Yq (x:=y) fun t ht => h t (by simp [AOp.temps,ht])]
 case indexA n x y => simp only [evalOp,evIndexA]; rw [Yq (x:=x) fun t ht => h t (by simp [AOp.temps,ht]),Yq (x:=y) fun t ht => h t (by simp [AOp.temps,ht])]
 case append n x y => simp only [evalOp,evAppend]; rw [Yq (x:=x) fun t ht => h t (by simp [AOp.temps,ht]),Yq (x:=y) fun t ht => h t (by simp [AOp.temps,ht])]
 case mapGet k z ok x y => simp only [evalOp,evMapGet]; rw [Yq (x:=x) fun t ht => h t (by simp [AOp.temps,ht]),Yq (x:=y) fun t ht => h t (by simp [AOp.temps,ht])]
 case bin op x y => simp only [evalOp]; rw [Yq (x:=x) fun t ht => h t (by simp [AOp.temps,ht]),Yq (x:=y) fun t ht => h t (by simp [AOp.temps,ht])]
 case eq n ks x y => simp only [evalOp]; rw [Yq (x:=x) fun t ht => h t (by simp [AOp.temps,ht]),Yq (x:=y) fun t ht => h t (by simp [AOp.temps,ht])]
 case mkSlice n z x y => simp only [evalOp]; rw [Yq (x:=x) fun t ht => h t (by simp [AOp.temps,ht]),Yq (x:=y) fun t ht => h t (by simp [AOp.temps,ht])]
 case indexP n z x y => simp only [evalOp]; rw [Yq (x:=x) fun t ht => h t (by simp [AOp.temps,ht]),Yq (x:=y) fun t ht => h t (by simp [AOp.temps,ht])]
 case index n z ag x y => simp only [evalOp]; rw [Yq (x:=x) fun t ht => h t (by simp [AOp.temps,ht]),Yq (x:=y) fun t ht => h t (by simp [AOp.temps,ht])]
 case mv x => simp only [evalOp]; rw [Yq (x:=x) fun t ht => h t (by simp [AOp.temps,ht])]
 case box x => simp only [evalOp]; rw [Yq (x:=x) fun t ht => h t (by simp [AOp.temps,ht])]
 case nilCk x => simp only [evalOp]; rw [Yq (x:=x) fun t ht => h t (by simp [AOp.temps,ht])]
 case un op x => simp only [evalOp]; rw [Yq (x:=x) fun t ht => h t (by simp [AOp.temps,ht])]
 case conv k x => simp only [evalOp]; rw [Yq (x:=x) fun t ht => h t (by simp [AOp.temps,ht])]
 case fieldA n x => simp only [evalOp]; rw [Yq (x:=x) fun t ht => h t (by simp [AOp.temps,ht])]
 case field n m ag x => simp only [evalOp]; rw [Yq (x:=x) fun t ht => h t (by simp [AOp.temps,ht])]
 case meth f x => simp only [evalOp]; rw [Yq (x:=x) fun t ht => h t (by simp [AOp.temps,ht])]
 case stuck => rfl
 case isNil neg x => simp only [evalOp]; rw [Yq (x:=x) fun t ht => h t (by simp [AOp.temps,ht])]
 case strLen x => simp only [evalOp,evStrLen]; rw [Yq (x:=x) fun t ht => h t (by simp [AOp.temps,ht])]
 case strId x => simp only [evalOp,evStrId]; rw [Yq (x:=x) fun t ht => h t (by simp [AOp.temps,ht])]
 case strOf x => simp only [evalOp,evStrOf]; rw [Yq (x:=x) fun t ht => h t (by simp [AOp.temps,ht])]
 case strAt x i => simp only [evalOp,evStrAt]; rw [Yq (x:=x) fun t ht => h t (by simp [AOp.temps,ht]),Yq (x:=i) fun t ht => h t (by simp [AOp.temps,ht])]
 case strEq neg x i => simp only [evalOp,evStrEq]; rw [Yq (x:=x) fun t ht => h t (by simp [AOp.temps,ht]),Yq (x:=i) fun t ht => h t (by simp [AOp.temps,ht])]
 case prim f xs =>
  simp only [evalOp];rw [mapO_congr (g:=getO T) fun p hp => Yq fun t ht => h t (by simp only [AOp.temps,List.mem_flatMap]; exact ⟨p,hp,ht⟩)]
 case clear n z x => simp only [evalOp]; rw [Yq (x:=x) fun t ht => h t (by simp [AOp.temps,ht])]
 case slice3 sz x lo hi mx =>
  have hlo : ∀ y,lo = some y → getO T' y = getO T y:=fun y hy => Yq fun t ht => h t (by simp [AOp.temps,hy,optTemps,ht])
  simp only [evalOp];rw [Yq (x:=x) fun t ht => h t (by simp [AOp.temps,ht]),Yq (x:=hi) fun t ht => h t (by simp [AOp.temps,ht]),Yq (x:=mx) fun t ht => h t (by simp [AOp.temps,ht])]
  cases lo with
  | none => rfl
  | some y => simp only [hlo y rfl]
 case extract x n => simp only [evalOp]; rw [Yq (x:=x) fun t ht => h t (by simp [AOp.temps,ht])]
 case len x => simp only [evalOp]; rw [Yq (x:=x) fun t ht => h t (by simp [AOp.temps,ht])]
theorem stepOp_local {call : CallF} {s : Nat} {o : AOper} {e : Eff} (h : stepOp call s o T R = some e) (hT : ∀ t ∈ o.temps,T' t = T t) (hR : ∀ i ∈ e.rd,R' i = R i) : stepOp call s o T' R' = some e:=by
 have h1 : ∀ t ∈ o.op.temps,T' t = T t:=fun t ht => hT t (by simp [AOper.temps,ht])
 unfold stepOp at h ⊢;split at h
 ·rw [evalOp_congr h1]; exact evalOp_local h hR
 ·rename_i t b hg
  have h2 : T' t = T t:=hT t (by simp [AOper.temps,hg])
  rw [h2];split at h
  ·split at h
   ·rename_i hc
    rw [if_pos hc,evalOp_congr h1]; exact evalOp_local h hR
   ·rename_i hc
    rw [if_neg hc]; exact h
  ·exact h
  ·cases h
end
def markOf (D : Nat) : Deferred:={ target:=.collected D,args:=#[] }
def Marks (Own S : Nat → Prop) (w : World) (ds : List Deferred) : Prop:=∃ Ds : List Nat,ds = Ds.map markOf∧Ds.Nodup∧∀ D ∈ Ds,Own D∧S D∧w.heap[D]? = some (.deferred (some []))
theorem Marks.mono {Own S S' : Nat → Prop} {w w' : World} {ds : List Deferred} (h : Marks Own S w ds) (hS : ∀ b,S b → S' b) (hw : ∀ b,S b → w'.heap[b]? = w.heap[b]?) : Marks Own S' w' ds:=by
 obtain ⟨Ds,h1,h2,h3⟩:=h;exact ⟨Ds,h1,h2,fun D hD => ⟨(h3 D hD).1,hS D (h3 D hD).2.1,(hw D (h3 D hD).2.1).trans (h3 D hD).2.2⟩⟩
structure Sim (P : Program) (Γ : Gam) (Own : Nat → Prop) (LL : List (Nat × Loc)) (FX : Nat → Option Value) (nt : Nat) (σ : Ids) (S : Nat → Prop) (w : World) (T : Nat → Option AV) (R : Nat → Option Row) (a : Act) : Prop where
 tmps : TmpsOk σ S w T a
 rows : RowsOk P Γ Own σ S w R
 size : a.tmps.size = nt
 marks : Marks Own S w a.defers
 fix : ∀ t v,FX t = some v → a.tmps.getD t undef = v
 own : ∀ b,w.heap.size≤b → Own b
 lent : ∀ p ∈ LL,σ p.1 = some p.2
def updT (T : Nat → Option AV) (dst : Option Nat) (v : AV) : Nat → Option AV:=fun t=>if dst = some t then some v else T t
theorem lk_putT (dst : Option Nat) (v : AV) (tm : List (Nat × AV)) (t : Nat) : lk t (putT dst v tm) = updT (fun t=>lk t tm) dst v t:=by
 cases dst with
 | none => simp [putT,updT]
 | some d =>
  simp only [putT,lk,updT];by_cases h : d = t <;> simp [h]
section
variable {P : Program} {Γ : Gam} {Own : Nat → Prop} {LL : List (Nat × Loc)} {FX : Nat → Option Value} {nt : Nat} {σ : Ids} {S : Nat → Prop} {w : World} {R : Nat → Option Row} {T : Nat → Option AV} {a : Act} {s : Nat}
theorem Sim.step {e : Eff} {v : Value} {w' : World} {dst : Option Nat} (h : Sim P Γ Own LL FX nt σ S w T R a) (hs : Step P Γ Own σ S w R s e v w') (hd : ∀ d,dst = some d → d < nt∧FX d = none) :
  ∃ σ' S',Sim P Γ Own LL FX nt σ' S' w' (updT T dst e.v) (updR e.wr R) (a.put dst v)∧Ext Own σ S w σ' S' w'∧∀ id,id < s ∨ s + siteWidth≤id → σ' id = σ id:=by
 obtain ⟨σ',S',h1,h2,h3,h4⟩:=hs;refine ⟨σ',S',⟨⟨fun t x hx => ?_,h.tmps.2.ext h3⟩,h2,?_,?_,fun t v' hv' => ?_,fun b hb => h.own b (Nat.le_trans h3.same.size hb),fun p hp => h3.ids _ _ (h.lent p hp)⟩,h3,h4⟩
 ·unfold updT at hx
  split at hx
  ·rename_i hdt
   simp only [Option.some.injEq] at hx;subst hx hdt;have hlt:=(hd t rfl).1;have : (a.put (some t) v).tmps.getD t undef = v:=by
    have hsz:=h.size;simp [Act.put,show t < a.tmps.size by omega]
   rw [this]; exact h1
  ·rename_i hdt
   have hold:=(h.tmps.1 t x hx).ext h3;have : (a.put dst v).tmps.getD t undef = a.tmps.getD t undef:=by
    cases dst with
    | none => rfl
    | some d =>
     have hne : d ≠ t:=fun e=>hdt (by rw [e])
     simp [Act.put,Array.getD_eq_getD_getElem?,Array.getElem?_setIfInBounds_ne hne]
   rw [this]; exact hold
 ·cases dst <;> simp [Act.put,h.size]
 ·have hm:=h.marks.mono h3.imm h3.keep
  cases dst <;> exact hm
 ·cases dst with
  | none => exact h.fix t v' hv'
  | some d =>
   have hne : d ≠ t:=fun e=>by rw [e] at hd; rw [(hd t rfl).2] at hv'; cases hv'
   have:=h.fix t v' hv';rw [← this];simp [Act.put,Array.getD_eq_getD_getElem?,Array.getElem?_setIfInBounds_ne hne]
theorem dst_free {fx : List Nat} (hfx : ∀ t v,FX t = some v → t ∈ fx) {d : Nat} (h : d < nt∧d ∉ fx) : d < nt∧FX d = none:=by
 refine ⟨h.1,?_⟩;cases hd : FX d with
 | none => rfl
 | some v => exact absurd (hfx d v hd) h.2
theorem oper_step {ro : Option Nat} {dn : Nat} {bor : Nat → List Nat} {ops : Array Oper} {i : Nat} {o : Oper} {ao : AOper} {call : CallF} {e : Eff} {K : Act → World → Prop} {Q : Exit → Act → World → Prop}
  (hsim : Sim P Γ Own LL FX nt σ S w T R a) (hF : ∀ id,s≤id → id < s + siteWidth → σ id = none) (hi : ops[i]? = some o) (hc : compOper P bor ops o = some ao) (he : stepOp call s ao T R = some e)
  (hcall : ∀ f vs r,call f vs = some r → CallOk P f vs r.1 r.2∧Enterable P f) (hK : ∀ v w',Step P Γ Own σ S w R s e v w' → K (a.put o.dst v) w') :
  wpOpIn (FR ro) dn P ops Q i K a w∧ao.dst = o.dst:=by
 have hFree : Free Own σ w s:=⟨hF,hsim.own⟩;have hund : RelV σ S w undef (.tuple []):=.tuple #[] [] rfl (by simp)
 have run : evalOp call s (getO T) R ((compOp P bor o.type o.op).getD .stuck) = some e → o.wpIn (FR ro) dn P a w K Q:=fun he=>by
  cases haop : compOp P bor o.type o.op with
  | none => rw [haop] at he; cases he
  | some aop =>
   rw [haop] at he;exact op_sound hsim.tmps hsim.rows hFree haop he hcall hK
 unfold compOper at hc
 ·skip
  unfold wpOpIn;simp only [hi];split at hc
  ·rename_i hg
   simp at hc; subst hc
   refine ⟨?_,rfl⟩;have hw : Region.wanted o (yielded ops a.tmps) = true:=by simp [Region.wanted,hg]
   simp only [hw,if_true];exact run he
  ·rename_i j b hg
   split at hc
   ·rename_i d hd
    simp at hc; subst hc
    refine ⟨?_,rfl⟩;have hy : yielded ops a.tmps j = match a.tmps[d]? with | some (.bool b) => some b | _ => none:=by
     unfold yielded; rw [hd]; rfl
    simp only [stepOp] at he;split at he
    ·rename_i c hTd
     have hval:=(hsim.tmps.1 d _ hTd).bool_inv;have hy' : yielded ops a.tmps j = some c:=by
      rw [hy];rw [Array.getD_eq_getD_getElem?] at hval;cases hq : a.tmps[d]? with
      | none => rw [hq] at hval; cases hval
      | some u => rw [hq] at hval; simp at hval; subst hval; rfl
     split at he
     ·rename_i hcb
      subst hcb;have hw : Region.wanted o (yielded ops a.tmps) = true:=by simp [Region.wanted,hg,hy']
      simp only [hw,if_true];exact run he
     ·rename_i hcb
      simp only [Option.some.injEq] at he; subst he
      have hw : Region.wanted o (yielded ops a.tmps) = false:=by simp [Region.wanted,hg,hy',hcb]
      simp only [hw,Bool.false_eq_true,if_false];exact ⟨fun _ _ => trivial,hK undef w (Step.pure hsim.rows hund)⟩
    ·rename_i hTd
     simp only [Option.some.injEq] at he; subst he
     have hval:=hsim.tmps.1 d _ hTd;have hval' : a.tmps.getD d undef = .tuple #[]:=by
      generalize a.tmps.getD d undef = u at hval;cases hval with
      | imm hv => cases hv
      | tuple vs _ hl _ => simp at hl; subst hl; rfl
     have hy' : yielded ops a.tmps j = none:=by
      rw [hy];rw [Array.getD_eq_getD_getElem?] at hval';cases hq : a.tmps[d]? with
      | none => rfl
      | some u => rw [hq] at hval'; simp at hval'; subst hval'; rfl
     have hw : Region.wanted o (yielded ops a.tmps) = false:=by simp [Region.wanted,hg,hy']
     simp only [hw,Bool.false_eq_true,if_false];exact ⟨fun _ _ => trivial,hK undef w (Step.pure hsim.rows hund)⟩
    ·cases he
   ·cases hc
end
end Go.Abs
namespace Go.Abs
def updG {β : Type} (ws : List (Nat × Option β)) (X : Nat → Option β) (t : Nat) : Option β:=match lk t ws with
 | some r => r
 | none => X t
def foldG {β : Type} (L : Nat → Bool) (X : Nat → Option β) : Nat → List (List (Nat × Option β)) → Nat → Option β
 | _,[] => X
 | k,ws :: r => foldG L (if L k then updG ws X else X) (k + 1) r
theorem foldG_agree {β : Type} {L L' : Nat → Bool} {t : Nat} : ∀ {l : List (List (Nat × Option β))} {X X' : Nat → Option β} {k : Nat},X t = X' t → (∀ (j : Nat) ws,l[j]? = some ws → L (k + j) ≠ L' (k + j) → lk t ws = none) →
  foldG L X k l t = foldG L' X' k l t
 | [],X,X',k,h,_ => h
 | ws :: l,X,X',k,h,hd => by
  simp only [foldG];refine foldG_agree ?_ fun j w hw hne => hd (j + 1) w (by simpa using hw) (by rw [show k + (j + 1) = k + 1 + j by omega]; exact hne)
  have h0:=hd 0 ws rfl;simp only [Nat.add_zero] at h0;by_cases hL : L k = true <;> by_cases hL' : L' k = true
  ·simp only [hL,hL',if_true,updG,h]
  ·have:=h0 (by simp_all)
   simp only [hL,hL',if_true,updG,this]; exact h
  ·have:=h0 (by simp_all)
   simp only [hL,hL',if_true,updG,this]; exact h
  ·simp only [hL,hL']; exact h
theorem foldG_last {β : Type} {L : Nat → Bool} {t : Nat} {ws : List (Nat × Option β)} {r : Option β} : ∀ {l : List (List (Nat × Option β))} {X : Nat → Option β} {k i : Nat},l[i]? = some ws → lk t ws = some r → L (k + i) = true →
  (∀ (j : Nat) wj,i < j → l[j]? = some wj → L (k + j) = true → lk t wj = none) → foldG L X k l t = r
 | [],X,k,i,h,_,_,_ => by simp at h
 | w0 :: l,X,k,0,h,hr,hL,hd => by
  simp at h; subst h
  simp only [Nat.add_zero] at hL;simp only [foldG,hL,if_true];have : foldG L (updG w0 X) (k + 1) l t = foldG (fun _=>false) (updG w0 X) (k + 1) l t:=by
   refine foldG_agree rfl fun j w hw hne => ?_
   have hj : L (k + (j + 1)) = true:=by rw [show k + (j + 1) = k + 1 + j by omega]; simpa using hne
   exact hd (j + 1) w (by omega) (by simpa using hw) hj
  rw [this];have key : ∀ (l : List (List (Nat × Option β))) (X : Nat → Option β) (k : Nat),foldG (fun _=>false) X k l = X:=by
   intro l;induction l with
   | nil => intro X k; rfl
   | cons a l ih => intro X k; simp only [foldG,Bool.false_eq_true,if_false]; exact ih X _
  rw [key];simp [updG,hr]
 | w0 :: l,X,k,i + 1,h,hr,hL,hd => by
  simp only [foldG];refine foldG_last (i:=i) (by simpa using h) hr (by rw [show k + 1 + i = k + (i + 1) by omega]; exact hL) fun j wj hij hw hj => ?_
  exact hd (j + 1) wj (by omega) (by simpa using hw) (by rw [show k + (j + 1) = k + 1 + j by omega]; exact hj)
theorem foldG_take {β : Type} {X : Nat → Option β} {t : Nat} : ∀ {l : List (List (Nat × Option β))} {k m : Nat} {X : Nat → Option β},foldG (fun _=>true) X k (l.take m) t = foldG (fun i=>decide (i < k + m)) X k l t
 | [],k,m,X => by simp [foldG]
 | ws :: l,k,0,X => by
  simp only [List.take_zero,foldG,Nat.add_zero,Nat.lt_irrefl,decide_false,Bool.false_eq_true,if_false];have key : ∀ (l : List (List (Nat × Option β))) (X : Nat → Option β) (k q : Nat),q≤k → foldG (fun i=>decide (i < q)) X k l = X:=by
   intro l;induction l with
   | nil => intro X k q _; rfl
   | cons a l ih => intro X k q h; simp only [foldG]; rw [if_neg (by simp; omega)]; exact ih X _ q (by omega)
  rw [key l X (k + 1) k (by omega)]
 | ws :: l,k,m + 1,X => by
  simp only [List.take_succ_cons,foldG,if_true];rw [if_pos (by simp),foldG_take (X:=updG ws X)]
  rw [show k + 1 + m = k + (m + 1) by omega]
theorem updR_updG (ws : List (Nat × Option Row)) (R : Nat → Option Row) : updR ws R = updG ws R:=by
 funext k;rw [updR_eq];unfold updG;cases lk k ws <;> rfl
def wT (o : AOper) (e : Eff) : List (Nat × Option AV):=match o.dst with
 | some d => [(d,some e.v)]
 | none => []
theorem updT_updG (T : Nat → Option AV) (o : AOper) (e : Eff) : updT T o.dst e.v = updG (wT o e) T:=by
 funext t;unfold updT updG wT;cases o.dst with
 | none => simp [lk]
 | some d =>
  simp only [lk,Option.some.injEq];by_cases h : d = t <;> simp [h]
theorem lk_wT {o : AOper} {e : Eff} {t : Nat} (h : o.dst ≠ some t) : lk t (wT o e) = none:=by
 unfold wT;cases hd : o.dst with
 | none => rfl
 | some d =>
  have : d ≠ t:=fun e=>h (by rw [hd,e])
  simp [lk,this]
theorem lk_keys {α : Type} {t : Nat} : ∀ {l : List (Nat × α)},t ∉ l.map (·.1) → lk t l = none
 | [],_ => rfl
 | (j,v) :: l,h => by
  simp only [List.map_cons,List.mem_cons,not_or] at h;simp only [lk,Ne.symm h.1,if_false];exact lk_keys h.2
def foot (k : Nat) (e : Eff) : Foot:=⟨k,e.rd,e.wr.map (·.1)⟩
def zipT : List AOper → List Eff → List (List (Nat × Option AV))
 | o :: os,e :: es => wT o e :: zipT os es
 | _,_ => []
theorem zipT_get : ∀ {os : List AOper} {es : List Eff} {j : Nat} {o : AOper} {e : Eff},os[j]? = some o → es[j]? = some e → (zipT os es)[j]? = some (wT o e)
 | [],_,j,_,_,h,_ => by simp at h
 | _ :: _,[],j,_,_,_,h => by simp at h
 | o :: os,e :: es,0,_,_,h,h' => by simp at h h'; subst h h'; rfl
 | o :: os,e :: es,j + 1,_,_,h,h' => by
  simp only [zipT,List.getElem?_cons_succ] at h h' ⊢;exact zipT_get h h'
theorem zipT_length : ∀ {os : List AOper} {es : List Eff},es.length = os.length → (zipT os es).length = os.length
 | [],[],_ => rfl
 | [],_ :: _,h => by simp at h
 | _ :: _,[],h => by simp at h
 | _ :: os,_ :: es,h => by simp [zipT,zipT_length (os:=os) (es:=es) (by simpa using h)]
theorem runOps_draw {call : CallF} {base : Nat} : ∀ {os : List AOper} {k : Nat} {bef : List (List Nat)} {acc : List Foot} {tm tm' : List (Nat × AV)} {rows rows' : List (Nat × Row)},
  runOps call base true k os bef acc tm rows = some (tm',rows') → ∃ es : List Eff,es.length = os.length ∧
   (∀ (j : Nat) o e,os[j]? = some o → es[j]? = some e → stepOp call (base + siteWidth * (k + j)) o (foldG (fun _=>true) (fun t=>lk t tm) 0 ((zipT os es).take j)) (foldG (fun _=>true) (fun i=>lk i rows) 0 ((es.map (·.wr)).take j)) = some e) ∧
   (∀ (j : Nat) e,es[j]? = some e → ∀ f ∈ acc,(bef.getD j []).contains f.k = true ∨ f.apart (foot (k + j) e) = true) ∧
   (∀ (j j' : Nat) e e',j < j' → es[j]? = some e → es[j']? = some e' → (bef.getD j' []).contains (k + j) = true ∨ (foot (k + j) e).apart (foot (k + j') e') = true) ∧
   (∀ t,lk t tm' = foldG (fun _=>true) (fun t=>lk t tm) 0 (zipT os es) t)∧(∀ i,lk i rows' = foldG (fun _=>true) (fun i=>lk i rows) 0 (es.map (·.wr)) i)
 | [],k,bef,acc,tm,tm',rows,rows',h => by
  simp [runOps] at h;obtain ⟨rfl,rfl⟩:=h;exact ⟨[],rfl,by simp,by simp,by simp,by simp [zipT,foldG],by simp [foldG]⟩
 | o :: os,k,bef,acc,tm,tm',rows,rows',h => by
  simp only [runOps] at h;split at h
  ·cases h
  ·rename_i e he
   simp only [if_true] at h;split at h
   ·rename_i hacc
    obtain ⟨es,h1,h2,h3,h4,h5,h6⟩:=runOps_draw h;have hT : (fun t=>lk t (putT o.dst e.v tm)) = updG (wT o e) (fun t=>lk t tm):=by
     rw [← updT_updG]; funext t; exact lk_putT ..
    have hRr : (fun i=>lk i (updRows e.wr rows)) = updG e.wr (fun i=>lk i rows):=by
     rw [← updR_updG]; funext t; exact lk_updRows ..
    have shift : ∀ {β : Type} (l : List (List (Nat × Option β))) (X : Nat → Option β) (k k' : Nat),foldG (fun _=>true) X k l = foldG (fun _=>true) X k' l:=by
     intro β l;induction l with
     | nil => intro X k k'; rfl
     | cons a l ih => intro X k k'; simp only [foldG,if_true]; exact ih _ _ _
    refine ⟨e :: es,by simp [h1],fun j o' e' ho' he' => ?_,fun j e' he' f hf => ?_,fun j j' e1 e2 hjj h1' h2' => ?_,fun t=>?_,fun i=>?_⟩
    ·cases j with
     | zero =>
      simp at ho' he';subst ho' he';simpa [zipT,foldG] using he
     | succ j =>
      simp only [List.getElem?_cons_succ] at ho' he';have:=h2 j o' e' ho' he';rw [hT,hRr,show k + 1 + j = k + (j + 1) by omega] at this
      simp only [zipT,List.map_cons,List.take_succ_cons,foldG,if_true];rw [shift _ _ (0 + 1) 0,shift (List.take j (List.map (fun x=>x.wr) es)) _ (0 + 1) 0]
      exact this
    ·cases j with
     | zero =>
      simp at he'; subst he'
      have:=List.all_eq_true.1 hacc f hf;simp only [Bool.or_eq_true] at this;cases bef <;> simpa [foot] using this
     | succ j =>
      simp only [List.getElem?_cons_succ] at he';have:=h3 j e' he' f (List.mem_cons_of_mem _ hf);rw [show k + 1 + j = k + (j + 1) by omega] at this
      cases bef <;> simpa using this
    ·cases j' with
     | zero => omega
     | succ j' =>
      simp only [List.getElem?_cons_succ] at h2';cases j with
      | zero =>
       simp at h1'; subst h1'
       have:=h3 j' e2 h2' (foot k e) (by simp [foot])
       rw [show k + 1 + j' = k + (j' + 1) by omega] at this
       cases bef <;> simpa [foot] using this
      | succ j =>
       simp only [List.getElem?_cons_succ] at h1';have:=h4 j j' e1 e2 (by omega) h1' h2'
       rw [show k + 1 + j' = k + (j' + 1) by omega,show k + 1 + j = k + (j + 1) by omega] at this
       cases bef <;> simpa using this
    ·rw [h5 t,hT]
     simp only [zipT,foldG,if_true];rw [shift _ _ (0 + 1) 0]
    ·rw [h6 i,hRr]
     simp only [List.map_cons,foldG,if_true];rw [shift _ _ (0 + 1) 0]
   ·cases h
theorem getChk_step {o : AOper} {tm : List (Nat × AV)} {rows : List (Nat × Row)} {e : Eff} {wr : List (Nat × Option Row)} (h : getChk o tm rows e wr = true) (call : CallF) (s : Nat) : stepOp call s o (fun t=>lk t tm) (updG wr (fun i=>lk i rows)) = some e∧e.wr = []:=by
 unfold getChk at h;split at h
 ·rename_i ks z ok m k hg hop
  unfold effEq at h;split at h
  ·rename_i e' he
   simp only [Bool.and_eq_true,List.isEmpty_iff,decide_eq_true_eq] at h;obtain ⟨⟨⟨h1,h2⟩,h3⟩,h4⟩:=h;have e0 : e' = e:=by
    obtain ⟨v,wr,rd⟩:=e;obtain ⟨v',wr',rd'⟩:=e';simp only at h1 h2 h3 h4;rw [AV.beq_eq _ _ h1,h2,h3,h4]
   subst e0;refine ⟨?_,h3⟩;unfold stepOp;rw [hg];simp only [hop,evalOp];rw [← updR_updG,← he]
   congr 1
   funext i;exact (lk_updRows ..).symm
  ·cases h
 ·cases h
theorem runOpsX_draw {call : CallF} {base : Nat} : ∀ {os : List AOper} {k : Nat} {bef : List (List Nat)} {acc : List FootX} {tm tm' : List (Nat × AV)} {rows rows' : List (Nat × Row)},
  runOpsX call base k os bef acc tm rows = some (tm',rows') → ∃ es : List Eff,es.length = os.length ∧
   (∀ (j : Nat) o e,os[j]? = some o → es[j]? = some e → stepOp call (base + siteWidth * (k + j)) o (foldG (fun _=>true) (fun t=>lk t tm) 0 ((zipT os es).take j)) (foldG (fun _=>true) (fun i=>lk i rows) 0 ((es.map (·.wr)).take j)) = some e) ∧
   (∀ (j : Nat) o e,os[j]? = some o → es[j]? = some e → ∀ f ∈ acc,(bef.getD j []).contains f.f.k = true ∨ f.f.apart (foot (k + j) e) = true ∨ (o.op.isEnt = true∧f.chk e.wr = true∧(∀ b ∈ acc,b.ent = false)∧∀ j'' o'',j'' < j → os[j'']? = some o'' → o''.op.isEnt = false)) ∧
   (∀ (j j' : Nat) o o' e e',j < j' → os[j]? = some o → os[j']? = some o' → es[j]? = some e → es[j']? = some e' → (bef.getD j' []).contains (k + j) = true ∨ (foot (k + j) e).apart (foot (k + j') e') = true ∨
    (o'.op.isEnt = true∧e.wr = []∧stepOp call (base + siteWidth * (k + j)) o (foldG (fun _=>true) (fun t=>lk t tm) 0 ((zipT os es).take j)) (updG e'.wr (foldG (fun _=>true) (fun i=>lk i rows) 0 ((es.map (·.wr)).take j))) = some e∧(∀ b ∈ acc,b.ent = false)∧∀ j'' o'',j'' < j' → os[j'']? = some o'' → o''.op.isEnt = false)) ∧
   (∀ t,lk t tm' = foldG (fun _=>true) (fun t=>lk t tm) 0 (zipT os es) t)∧(∀ i,lk i rows' = foldG (fun _=>true) (fun i=>lk i rows) 0 (es.map (·.wr)) i)
 | [],k,bef,acc,tm,tm',rows,rows',h => by
  simp [runOpsX] at h;obtain ⟨rfl,rfl⟩:=h;exact ⟨[],rfl,by simp,by simp,by simp,by simp [zipT,foldG],by simp [foldG]⟩
 | o :: os,k,bef,acc,tm,tm',rows,rows',h => by
  simp only [runOpsX] at h;split at h
  ·cases h
  ·rename_i e he
   split at h
   ·rename_i hacc
    obtain ⟨es,h1,h2,h3,h4,h5,h6⟩:=runOpsX_draw h;have hT : (fun t=>lk t (putT o.dst e.v tm)) = updG (wT o e) (fun t=>lk t tm):=by
     rw [← updT_updG]; funext t; exact lk_putT ..
    have hRr : (fun i=>lk i (updRows e.wr rows)) = updG e.wr (fun i=>lk i rows):=by
     rw [← updR_updG]; funext t; exact lk_updRows ..
    have shift : ∀ {β : Type} (l : List (List (Nat × Option β))) (X : Nat → Option β) (k k' : Nat),foldG (fun _=>true) X k l = foldG (fun _=>true) X k' l:=by
     intro β l;induction l with
     | nil => intro X k k'; rfl
     | cons a l ih => intro X k k'; simp only [foldG,if_true]; exact ih _ _ _
    refine ⟨e :: es,by simp [h1],fun j o' e' ho' he' => ?_,fun j o' e' ho' he' f hf => ?_,fun j j' o1 o2 e1 e2 hjj ho1 ho2 h1' h2' => ?_,fun t=>?_,fun i=>?_⟩
    ·cases j with
     | zero =>
      simp at ho' he';subst ho' he';simpa [zipT,foldG] using he
     | succ j =>
      simp only [List.getElem?_cons_succ] at ho' he';have:=h2 j o' e' ho' he';rw [hT,hRr,show k + 1 + j = k + (j + 1) by omega] at this
      simp only [zipT,List.map_cons,List.take_succ_cons,foldG,if_true];rw [shift _ _ (0 + 1) 0,shift (List.take j (List.map (fun x=>x.wr) es)) _ (0 + 1) 0]
      exact this
    ·cases j with
     | zero =>
      simp at he' ho'; subst he' ho'
      have:=List.all_eq_true.1 hacc f hf;simp only [Bool.or_eq_true,Bool.and_eq_true] at this;rcases this with (h1 | h1) | ⟨⟨⟨q1,q2⟩,_⟩,q4⟩
      ·exact .inl (by cases bef <;> simpa using h1)
      ·exact .inr (.inl (by simpa [foot] using h1))
      ·exact .inr (.inr ⟨q1,q4,fun b hb => by have:=List.all_eq_true.1 q2 b hb; simpa using this,fun j'' o'' h => by omega⟩)
     | succ j =>
      simp only [List.getElem?_cons_succ] at he' ho';have:=h3 j o' e' ho' he' f (List.mem_cons_of_mem _ hf);rw [show k + 1 + j = k + (j + 1) by omega] at this
      rcases this with h1 | h1 | ⟨q1,q2,q3,q4⟩
      ·exact .inl (by cases bef <;> simpa using h1)
      ·exact .inr (.inl h1)
      ·refine .inr (.inr ⟨q1,q2,fun b hb => q3 b (List.mem_cons_of_mem _ hb),fun j'' o'' hj ho => ?_⟩)
       cases j'' with
       | zero => simp at ho; subst ho; exact q3 _ (List.mem_cons_self ..)
       | succ j'' => exact q4 j'' o'' (by omega) (by simpa using ho)
    ·cases j' with
     | zero => omega
     | succ j' =>
      simp only [List.getElem?_cons_succ] at h2' ho2;cases j with
      | zero =>
       simp at h1' ho1; subst h1' ho1
       have:=h3 j' o2 e2 ho2 h2' ⟨⟨k,e.rd,e.wr.map (·.1)⟩,o.op.isEnt,getChk o tm rows e⟩ (by simp)
       rw [show k + 1 + j' = k + (j' + 1) by omega] at this
       rcases this with h1 | h1 | ⟨q1,q2,q3,q4⟩
       ·exact .inl (by cases bef <;> simpa using h1)
       ·exact .inr (.inl h1)
       ·obtain ⟨g1,g2⟩:=getChk_step q2 call (base + siteWidth * (k + 0))
        refine .inr (.inr ⟨q1,g2,by simpa [foldG] using g1,fun b hb => q3 b (List.mem_cons_of_mem _ hb),fun j'' o'' hj ho => ?_⟩)
        cases j'' with
        | zero => simp at ho; subst ho; exact q3 _ (List.mem_cons_self ..)
        | succ j'' => exact q4 j'' o'' (by omega) (by simpa using ho)
      | succ j =>
       simp only [List.getElem?_cons_succ] at h1' ho1;have:=h4 j j' o1 o2 e1 e2 (by omega) ho1 ho2 h1' h2'
       rw [show k + 1 + j' = k + (j' + 1) by omega,show k + 1 + j = k + (j + 1) by omega] at this
       rcases this with h1 | h1 | ⟨q1,q2,q3,qa,q4⟩
       ·exact .inl (by cases bef <;> simpa using h1)
       ·exact .inr (.inl h1)
       ·refine .inr (.inr ⟨q1,q2,?_,fun b hb => qa b (List.mem_cons_of_mem _ hb),fun j'' o'' hj ho => ?_⟩)
        ·rw [hT,hRr] at q3
         simp only [zipT,List.map_cons,List.take_succ_cons,foldG,if_true];rw [shift _ _ (0 + 1) 0,shift (List.take j (List.map (fun x=>x.wr) es)) _ (0 + 1) 0]
         exact q3
        ·cases j'' with
         | zero => simp at ho; subst ho; exact qa _ (List.mem_cons_self ..)
         | succ j'' => exact q4 j'' o'' (by omega) (by simpa using ho)
    ·rw [h5 t,hT]
     simp only [zipT,foldG,if_true];rw [shift _ _ (0 + 1) 0]
    ·rw [h6 i,hRr]
     simp only [List.map_cons,foldG,if_true];rw [shift _ _ (0 + 1) 0]
   ·cases h
end Go.Abs
namespace Go.Abs
structure ExtW (Own : Nat → Prop) (S : Nat → Prop) (w : World) (S' : Nat → Prop) (w' : World) : Prop where
 imm : ∀ b,S b → S' b
 keep : ∀ b,S b → w'.heap[b]? = w.heap[b]?
 frame : ∀ b,¬ Own b → w'.heap[b]? = w.heap[b]?
 same : Same w w'
 bound : ∀ b,S' b → S b ∨ Own b
theorem ExtW.refl (Own : Nat → Prop) (S : Nat → Prop) (w : World) : ExtW Own S w S w:=⟨fun _ h => h,fun _ _ => rfl,fun _ _ => rfl,Same.refl w,fun _ h => .inl h⟩
theorem ExtW.trans {Own : Nat → Prop} {S S' S'' : Nat → Prop} {w w' w'' : World} (h : ExtW Own S w S' w') (h' : ExtW Own S' w' S'' w'') : ExtW Own S w S'' w'' :=
 ⟨fun b hb => h'.imm b (h.imm b hb),fun b hb => (h'.keep b (h.imm b hb)).trans (h.keep b hb),fun b hb => (h'.frame b hb).trans (h.frame b hb),h.same.trans h'.same,fun b hb => (h'.bound b hb).elim (h.bound b) .inr⟩
theorem Ext.w {Own : Nat → Prop} {σ σ' : Ids} {S S' : Nat → Prop} {w w' : World} (h : Ext Own σ S w σ' S' w') : ExtW Own S w S' w':=⟨h.imm,h.keep,h.frame,h.same,h.bound⟩
section
variable {P : Program} {Γ : Gam} {Own : Nat → Prop} {LL : List (Nat × Loc)} {FX : Nat → Option Value} {nt : Nat} {S0 : Nat → Prop} {w0 : World}
theorem Sim.congr {σ : Ids} {S : Nat → Prop} {w : World} {T T' : Nat → Option AV} {R R' : Nat → Option Row} {a : Act} (h : Sim P Γ Own LL FX nt σ S w T R a) (hT : ∀ t,T' t = T t) (hR : ∀ i,R' i = R i) : Sim P Γ Own LL FX nt σ S w T' R' a:=by
 have e1 : T' = T:=funext hT;have e2 : R' = R:=funext hR;rw [e1,e2]; exact h
theorem text_sound {ro : Option Nat} {dn : Nat} {bor : Nat → List Nat} {ops : Array Oper} {call : CallF} {base : Nat} {Q : Exit → Act → World → Prop} {fx : List Nat} (hfx : ∀ t v,FX t = some v → t ∈ fx) (hcall : ∀ f vs r,call f vs = some r → CallOk P f vs r.1 r.2∧Enterable P f) (hdst : dstOk nt fx ops = true)
  {tm' : List (Nat × AV)} {rows' : List (Nat × Row)}
  (hQ : ∀ σ S w a,Sim P Γ Own LL FX nt σ S w (fun t=>lk t tm') (fun i=>lk i rows') a → ExtW Own S0 w0 S w → (∀ id,base + siteWidth * ops.size≤id → σ id = none) → Q .normal a w) :
  ∀ {os : List AOper} {l : List Oper} {k : Nat} {bef : List (List Nat)} {acc : List Foot} {tm : List (Nat × AV)} {rows : List (Nat × Row)} {σ : Ids} {S : Nat → Prop} {w : World} {a : Act},
   runOps call base false k os bef acc tm rows = some (tm',rows') → ops.toList.drop k = l → mapO (compOper P bor ops) l = some os → k + l.length = ops.size →
   Sim P Γ Own LL FX nt σ S w (fun t=>lk t tm) (fun i=>lk i rows) a → ExtW Own S0 w0 S w → (∀ id,base + siteWidth * k≤id → σ id = none) → wpOpsIn (FR ro) dn P ops Q (List.range' k l.length) a w
 | os,[],k,bef,acc,tm,rows,σ,S,w,a,h,hl,hc,hk,hsim,hext,hfr => by
  simp [mapO] at hc; subst hc
  simp [runOps] at h;obtain ⟨rfl,rfl⟩:=h;simp only [List.length_nil,List.range'_zero,wpOpsIn];simp at hk;exact hQ σ S w a hsim hext (by rw [← hk]; exact hfr)
 | os,o :: l,k,bef,acc,tm,rows,σ,S,w,a,h,hl,hc,hk,hsim,hext,hfr => by
  simp only [mapO] at hc;split at hc
  ·cases hc
  ·rename_i ao hao
   split at hc
   ·cases hc
   ·rename_i os' hos
    simp at hc; subst hc
    simp only [runOps] at h;split at h
    ·cases h
    ·rename_i e he
     simp only [Bool.false_eq_true,if_false] at h;simp only [List.length_cons,List.range'_succ];rw [wpOpsIn_cons];have hok : ops[k]? = some o:=by
      rw [← Array.getElem?_toList];have : (ops.toList.drop k)[0]? = some o:=by rw [hl]; rfl
      simpa using this
     have hdrop : ops.toList.drop (k + 1) = l:=by
      have : (ops.toList.drop k).drop 1 = l:=by rw [hl]; rfl
      rw [List.drop_drop] at this;exact this
     have hdd : ∀ d,o.dst = some d → d < nt∧FX d = none:=by
      intro d hd;have:=Array.all_eq_true_iff_forall_mem.1 hdst o (Array.mem_of_getElem? hok);simp only [hd] at this;exact dst_free hfx (by simpa using this)
     have hw32 : siteWidth = 32:=rfl;have key:=oper_step (ro:=ro) (dn:=dn) (P:=P) (Q:=Q) (K:=wpOpsIn (FR ro) dn P ops Q (List.range' (k + 1) l.length)) hsim (s:=base + siteWidth * k) (fun id h1 _ => hfr id h1) hok hao he hcall (fun v w' hs => by
      obtain ⟨σ',S',hsim',hext',hout⟩:=hsim.step hs (dst:=o.dst) hdd;refine text_sound (ro:=ro) (dn:=dn) hfx hcall hdst hQ h hdrop hos (by simp at hk; omega) (hsim'.congr (fun t=>?_) (fun i=>?_)) (hext.trans hext'.w) (fun id hid => ?_)
      ·have hd2 : ao.dst = o.dst:=by
        unfold compOper at hao;split at hao
        ·simp at hao; rw [← hao]
        ·split at hao
         ·simp at hao; rw [← hao]
         ·cases hao
       rw [lk_putT,hd2]
      ·exact lk_updRows ..
      ·rw [hout id (.inr (by rw [Nat.mul_add] at hid; omega))]
       exact hfr id (by rw [Nat.mul_add] at hid; omega))
     exact key.1
theorem compOper_dst {bor : Nat → List Nat} {ops : Array Oper} {o : Oper} {ao : AOper} (h : compOper P bor ops o = some ao) : ao.dst = o.dst:=by
 unfold compOper at h;split at h
 ·simp at h; rw [← h]
 ·split at h
  ·simp at h; rw [← h]
  ·cases h
theorem disj_mem {a b : List Nat} (h : disj a b = true) {x : Nat} (ha : x ∈ a) : x ∉ b:=by
 have:=List.all_eq_true.1 h x ha;simpa using this
def SoftP (call : CallF) (base : Nat) (as : List AOper) (es : List Eff) (bef : List (List Nat)) (T0 : Nat → Option AV) (R0 : Nat → Option Row) (j j' : Nat) (e e' : Eff) : Prop :=
 e.wr = []∧(∀ o,as[j]? = some o → stepOp call (base + siteWidth * j) o (foldG (fun i=>decide (i < j)) T0 0 (zipT as es)) (updG e'.wr (foldG (fun i=>decide (i < j)) R0 0 (es.map (·.wr)))) = some e) ∧
  ∀ j'' e'',j < j'' → j'' ≠ j' → es[j'']? = some e'' → (bef.getD j'' []).contains j = true ∨ (foot j e).apart (foot j'' e'') = true
theorem draw_sound {ro : Option Nat} {dn : Nat} {bor : Nat → List Nat} {ops : Array Oper} {as : List AOper} {es : List Eff} {call : CallF} {base : Nat} {bef : List (List Nat)} {Q : Exit → Act → World → Prop} {T0 : Nat → Option AV} {R0 : Nat → Option Row}
  {fx : List Nat} (hfx : ∀ t v,FX t = some v → t ∈ fx) (hcall : ∀ f vs r,call f vs = some r → CallOk P f vs r.1 r.2∧Enterable P f) (hdst : dstOk nt fx ops = true) (hcomp : mapO (compOper P bor ops) ops.toList = some as) (hdraw : drawOk ops as bef = true)
  (hlen : es.length = as.length)
  (hstep : ∀ (j : Nat) o e,as[j]? = some o → es[j]? = some e → stepOp call (base + siteWidth * j) o (foldG (fun i=>decide (i < j)) T0 0 (zipT as es)) (foldG (fun i=>decide (i < j)) R0 0 (es.map (·.wr))) = some e)
  (hfoot : ∀ (j j' : Nat) e e',j < j' → es[j]? = some e → es[j']? = some e' → (bef.getD j' []).contains j = true ∨ (foot j e).apart (foot j' e') = true ∨ SoftP call base as es bef T0 R0 j j' e e')
  (hQ : ∀ σ S w a,Sim P Γ Own LL FX nt σ S w (foldG (fun _=>true) T0 0 (zipT as es)) (foldG (fun _=>true) R0 0 (es.map (·.wr))) a → ExtW Own S0 w0 S w → (∀ id,base + siteWidth * ops.size≤id → σ id = none) → Q .normal a w) :
  ∀ (fuel : Nat) (listed : Array Bool) (σ : Ids) (S : Nat → Prop) (w : World) (a : Act),listed.size = ops.size → listed.toList.count true + fuel = ops.size →
   (∀ i,listed.getD i false = true → ∀ j ∈ bef.getD i [],listed.getD j false = true) →
   Sim P Γ Own LL FX nt σ S w (foldG (fun i=>listed.getD i false) T0 0 (zipT as es)) (foldG (fun i=>listed.getD i false) R0 0 (es.map (·.wr))) a → ExtW Own S0 w0 S w →
   (∀ i,i < ops.size → listed.getD i false = false → ∀ id,base + siteWidth * i≤id → id < base + siteWidth * i + siteWidth → σ id = none) → (∀ id,base + siteWidth * ops.size≤id → σ id = none) →
   wpAnyIn (FR ro) dn P .any ops Q fuel listed a w:=by
 obtain ⟨cl,cs⟩:=mapO_spec hcomp;have hasz : as.length = ops.size:=by simpa using cl
 simp only [drawOk,Bool.and_eq_true,decide_eq_true_eq] at hdraw;obtain ⟨⟨hedge,hpairs⟩,hbl⟩:=hdraw;have edge : ∀ (j : Nat) o,ops[j]? = some o → befOk bef j o = true∧edgesOk j o = true:=by
  intro j o ho;have hm : (o,j) ∈ ops.toList.zipIdx:=by
   rw [List.mk_mem_zipIdx_iff_getElem?,Array.getElem?_toList]; exact ho
  have:=List.all_eq_true.1 hedge (o,j) hm;simpa using this
 have pair : ∀ (i j : Nat) x y,i < j → as[i]? = some x → as[j]? = some y → (bef.getD j []).contains i = true ∨ x.apart y = true:=by
  intro i j x y hij hx hy;have hm : (y,j) ∈ as.zipIdx:=by rw [List.mk_mem_zipIdx_iff_getElem?]; exact hy
  have h1:=List.all_eq_true.1 hpairs (y,j) hm;have hm2 : (x,i) ∈ (as.take j).zipIdx:=by
   rw [List.mk_mem_zipIdx_iff_getElem?,List.getElem?_take,if_pos hij]; exact hx
  have h2:=List.all_eq_true.1 h1 (x,i) hm2;simpa using h2
 have getD_bool : ∀ (l : Array Bool) (i : Nat) (d : Bool),i < l.size → l.getD i d = l.getD i false:=by
  intro l i d h;simp [h]
 intro fuel;induction fuel with
 | zero =>
  intro listed σ S w a hsz hcount hdown hsim hext hfr hfr2;have hall : ∀ i,i < ops.size → listed.getD i false = true:=by
   intro i hi;have hc : listed.toList.count true = listed.toList.length:=by rw [Array.length_toList]; omega
   have:=List.count_eq_length.1 hc listed[i] (by simp)
   simp [show i < listed.size by omega,← this]
  refine wpAnyIn_done (md:=.any) ?_ ?_ 0
  ·rw [List.eq_nil_iff_forall_not_mem]
   intro i hi;obtain ⟨h1,o,ho,_⟩:=mem_ready.1 hi;have hlt : i < ops.size:=(Array.getElem?_eq_some_iff.1 ho).1;rw [getD_bool listed i true (by omega),hall i hlt] at h1
   cases h1
  ·refine hQ σ S w a (hsim.congr (fun t=>?_) (fun i=>?_)) hext hfr2
   ·refine foldG_agree rfl fun j ws hw hne => absurd ?_ hne
    have : j < (zipT as es).length:=(List.getElem?_eq_some_iff.1 hw).1;rw [zipT_length hlen] at this;simp [hall j (by omega)]
   ·refine foldG_agree rfl fun j ws hw hne => absurd ?_ hne
    have : j < (es.map (·.wr)).length:=(List.getElem?_eq_some_iff.1 hw).1;simp at this;simp [hall j (by omega)]
 | succ fuel ih =>
  intro listed σ S w a hsz hcount hdown hsim hext hfr hfr2;refine ⟨fun hready=>?_,fun i hi => ?_⟩
  ·-- nothing is ready: all are listed
   have hall : ∀ n i,i < n → i < ops.size → listed.getD i false = true:=by
    intro n;induction n with
    | zero => intro i h; omega
    | succ n ihn =>
     intro i hin hi;cases hl : listed.getD i false with
     | true => rfl
     | false =>
      exfalso;have hoi : ops[i]? = some ops[i]:=Array.getElem?_eq_getElem hi;have : i ∈ Region.ready .any ops listed:=by
       rw [mem_ready];refine ⟨by rw [getD_bool listed i true (by omega)]; exact hl,ops[i],hoi,fun e he hb => ?_⟩
       have h2:=(edge i _ hoi).2;unfold edgesOk at h2;have h3:=Array.all_eq_true_iff_forall_mem.1 h2 e he;simp only [hb,Bool.not_true,Bool.false_or,decide_eq_true_eq] at h3;exact ihn e.on (by omega) (by omega)
      rw [hready] at this;cases this
   refine hQ σ S w a (hsim.congr (fun t=>?_) (fun i=>?_)) hext hfr2
   ·refine foldG_agree rfl fun j ws hw hne => absurd ?_ hne
    have : j < (zipT as es).length:=(List.getElem?_eq_some_iff.1 hw).1;rw [zipT_length hlen] at this;simp [hall (j + 1) j (by omega) (by omega)]
   ·refine foldG_agree rfl fun j ws hw hne => absurd ?_ hne
    have : j < (es.map (·.wr)).length:=(List.getElem?_eq_some_iff.1 hw).1;simp at this;simp [hall (j + 1) j (by omega) (by omega)]
  ·obtain ⟨hun,o,ho,hedges⟩:=mem_ready.1 hi
   have hlt : i < ops.size:=(Array.getElem?_eq_some_iff.1 ho).1;have hun' : listed.getD i false = false:=by rw [← getD_bool listed i true (by omega)]; exact hun
   have hia : i < as.length:=by omega
   have hie : i < es.length:=by omega
   have hao : as[i]? = some as[i]:=List.getElem?_eq_getElem hia;have hee : es[i]? = some es[i]:=List.getElem?_eq_getElem hie;have hcomp' : compOper P bor ops o = some as[i]:=cs i o as[i] (by rw [Array.getElem?_toList]; exact ho) hao
   have hd2:=compOper_dst hcomp';have hdd : ∀ d,o.dst = some d → d < nt∧FX d = none:=by
    intro d hd;have:=Array.all_eq_true_iff_forall_mem.1 hdst o (Array.mem_of_getElem? ho);simp only [hd] at this;exact dst_free hfx (by simpa using this)
   have hbefi : ∀ j ∈ bef.getD i [],listed.getD j false = true:=by
    intro j hj;have h1:=(edge i o ho).1;unfold befOk at h1;have h2:=List.all_eq_true.1 h1 j hj;rw [Array.any_eq_true'] at h2;obtain ⟨ed,hed,h3⟩:=h2;simp only [Bool.and_eq_true,Bool.or_eq_true,beq_iff_eq] at h3;have h4:=hedges ed hed h3.1;rcases h3.2 with h5 | h5
    ·rw [← h5]; exact h4
    ·exact hdown ed.on h4 j (by simpa using h5)
   have unord : ∀ (j : Nat) x,as[j]? = some x → j ≠ i → (listed.getD j false ≠ decide (j < i)) →
     (j < i∧x.apart as[i] = true∧∀ ej,es[j]? = some ej → (foot j ej).apart (foot i es[i]) = true ∨ ej.wr = []) ∨ (i < j∧listed.getD j false = true∧as[i].apart x = true∧∀ ej,es[j]? = some ej → (foot i es[i]).apart (foot j ej) = true ∨ SoftP call base as es bef T0 R0 i j es[i] ej):=by
    intro j x hx hne hd;rcases Nat.lt_or_gt_of_ne hne with hji | hij
    ·left
     have hnl : listed.getD j false = false:=by simpa [hji] using hd
     have hnb : ¬ (bef.getD i []).contains j = true:=fun h=>by
      have:=hbefi j (by simpa using h)
      rw [hnl] at this; cases this
     exact ⟨hji,(pair j i x as[i] hji hx hao).resolve_left hnb,fun ej hej => ((hfoot j i ej es[i] hji hej hee).resolve_left hnb).imp (fun h=>h) fun h=>h.1⟩
    ·right
     have hl : listed.getD j false = true:=by
      have : decide (j < i) = false:=by simp; omega
      rw [this] at hd;simpa using hd
     have hnb : ¬ (bef.getD j []).contains i = true:=fun h=>by
      have:=hdown j hl i (by simpa using h)
      rw [hun'] at this; cases this
     exact ⟨hij,hl,(pair i j as[i] x hij hao hx).resolve_left hnb,fun ej hej => (hfoot i j es[i] ej hij hee hej).resolve_left hnb⟩
   have apartT : ∀ (x y : AOper) t,x.apart y = true → (t ∈ y.temps → x.dst ≠ some t)∧(∀ d,x.dst = some d → y.dst ≠ some d)∧(t ∈ x.temps → y.dst ≠ some t):=by
    intro x y t hxy;simp only [AOper.apart,Bool.and_eq_true] at hxy;refine ⟨fun ht hx => ?_,fun d hx hy => ?_,fun ht hy => ?_⟩
    ·have:=hxy.1; simp [hx] at this; exact this.1 ht
    ·have:=hxy.1; simp [hx] at this; exact this.2 hy
    ·have:=hxy.2; simp [hy] at this; exact this ht
   have hsees : stepOp call (base + siteWidth * i) as[i] (foldG (fun j=>listed.getD j false) T0 0 (zipT as es)) (foldG (fun j=>listed.getD j false) R0 0 (es.map (·.wr))) = some es[i]:=by
    have hTT : ∀ t ∈ as[i].temps,foldG (fun j=>listed.getD j false) T0 0 (zipT as es) t = foldG (fun j=>decide (j < i)) T0 0 (zipT as es) t:=by
     intro t ht;refine foldG_agree rfl fun j ws hw hne => ?_
     simp only [Nat.zero_add] at hne;have hj : j < as.length:=by have:=(List.getElem?_eq_some_iff.1 hw).1; rw [zipT_length hlen] at this; exact this
     have hje : j < es.length:=by omega
     have hws:=zipT_get (List.getElem?_eq_getElem hj) (List.getElem?_eq_getElem hje);rw [hw] at hws; simp at hws; subst hws
     have hne' : j ≠ i:=by rintro rfl; exact hne (by rw [hun']; simp)
     refine lk_wT ?_;rcases unord j _ (List.getElem?_eq_getElem hj) hne' hne with ⟨_,h1,_⟩ | ⟨_,_,h1,_⟩
     ·exact (apartT _ _ t h1).1 ht
     ·exact (apartT _ _ t h1).2.2 ht
    by_cases hx : ∃ (j0 : Nat) (hj0 : j0 < es.length),i < j0∧listed.getD j0 false = true∧SoftP call base as es bef T0 R0 i j0 es[i] es[j0]
    ·obtain ⟨j0,hj0,hij0,hl0,hsoft⟩:=hx
     have hno : ∀ (j : Nat) (hje : j < es.length),i < j → j ≠ j0 → listed.getD j false = true → ∀ id ∈ es[i].rd,lk id es[j].wr = none:=by
      intro j hje hij hjj hl id hid;rcases hsoft.2.2 j es[j] hij hjj (List.getElem?_eq_getElem hje) with h1 | h1
      ·have:=hdown j hl i (by simpa using h1)
       rw [hun'] at this; cases this
      ·refine lk_keys fun hm=>?_
       simp only [Foot.apart,foot,Bool.and_eq_true] at h1;exact disj_mem h1.2 hm hid
     refine stepOp_local (hsoft.2.1 as[i] hao) hTT (fun id hid => ?_)
     cases hlk : lk id es[j0].wr with
     | some r =>
      rw [show updG es[j0].wr (foldG (fun j=>decide (j < i)) R0 0 (es.map (·.wr))) id = r from by unfold updG; rw [hlk]]
      refine foldG_last (i:=j0) (by rw [List.getElem?_map,List.getElem?_eq_getElem hj0]; rfl) hlk (by rw [Nat.zero_add]; exact hl0) fun j wj hij hw hL => ?_
      rw [Nat.zero_add] at hL;have hje : j < es.length:=by have:=(List.getElem?_eq_some_iff.1 hw).1; simpa using this
      have hws : wj = es[j].wr:=by
       rw [List.getElem?_map,List.getElem?_eq_getElem hje] at hw;simpa using hw.symm
      subst hws;exact hno j hje (by omega) (by omega) hL id hid
     | none =>
      rw [show updG es[j0].wr (foldG (fun j=>decide (j < i)) R0 0 (es.map (·.wr))) id = foldG (fun j=>decide (j < i)) R0 0 (es.map (·.wr)) id from by unfold updG; rw [hlk]]
      refine foldG_agree rfl fun j ws hw hne => ?_
      simp only [Nat.zero_add] at hne;have hje : j < es.length:=by have:=(List.getElem?_eq_some_iff.1 hw).1; simpa using this
      have hj : j < as.length:=by omega
      have hws : ws = es[j].wr:=by
       rw [List.getElem?_map,List.getElem?_eq_getElem hje] at hw;simpa using hw.symm
      subst hws;have hne' : j ≠ i:=by rintro rfl; exact hne (by rw [hun']; simp)
      by_cases hjj : j = j0
      ·subst hjj; exact hlk
      ·rcases unord j _ (List.getElem?_eq_getElem hj) hne' hne with ⟨_,_,h1⟩ | ⟨g1,g2,_,_⟩
       ·rcases h1 _ (List.getElem?_eq_getElem hje) with h2 | h2
        ·refine lk_keys fun hm=>?_
         simp only [Foot.apart,foot,Bool.and_eq_true] at h2;exact disj_mem h2.1 hm (List.mem_append_left _ hid)
        ·rw [h2]; rfl
       ·exact hno j hje g1 hjj g2 id hid
    ·refine stepOp_local (hstep i as[i] es[i] hao hee) hTT (fun id hid => ?_)
     refine foldG_agree rfl fun j ws hw hne => ?_
     simp only [Nat.zero_add] at hne;have hje : j < es.length:=by have:=(List.getElem?_eq_some_iff.1 hw).1; simpa using this
     have hj : j < as.length:=by omega
     have hws : ws = es[j].wr:=by
      rw [List.getElem?_map,List.getElem?_eq_getElem hje] at hw;simpa using hw.symm
     subst hws;have hne' : j ≠ i:=by rintro rfl; exact hne (by rw [hun']; simp)
     rcases unord j _ (List.getElem?_eq_getElem hj) hne' hne with ⟨_,_,h1⟩ | ⟨g1,g2,_,h1⟩
     ·rcases h1 _ (List.getElem?_eq_getElem hje) with h2 | h2
      ·refine lk_keys fun hm=>?_
       simp only [Foot.apart,foot,Bool.and_eq_true] at h2;exact disj_mem h2.1 hm (List.mem_append_left _ hid)
      ·rw [h2]; rfl
     ·rcases h1 _ (List.getElem?_eq_getElem hje) with h2 | h2
      ·refine lk_keys fun hm=>?_
       simp only [Foot.apart,foot,Bool.and_eq_true] at h2;exact disj_mem h2.2 hm hid
      ·exact absurd ⟨j,hje,g1,g2,h2⟩ hx
   have hw32 : siteWidth = 32:=rfl;have hset : ∀ j,(listed.setIfInBounds i true).getD j false = if j = i then true else listed.getD j false:=by
    intro j;by_cases hji : j = i
    ·subst hji; simp [show j < listed.size by omega]
    ·rw [if_neg hji,getD_set_ne false (Ne.symm hji)]
   have key:=oper_step (ro:=ro) (dn:=dn) (P:=P) (Q:=Q) (K:=wpAnyIn (FR ro) dn P .any ops Q fuel (listed.setIfInBounds i true)) hsim (s:=base + siteWidth * i) (hfr i hlt hun') ho hcomp' hsees hcall (fun v w' hs => by
    obtain ⟨σ',S',hsim',hext',hout⟩:=hsim.step hs (dst:=o.dst) hdd;refine ih (listed.setIfInBounds i true) σ' S' w' (a.put o.dst v) (by simpa using hsz) ?_ ?_ (hsim'.congr (fun t=>?_) (fun id=>?_)) (hext.trans hext'.w) ?_ ?_
    ·have hli : listed.toList[i]'(by simp; omega) = false:=by
      have : listed.getD i false = listed[i]'(by omega):=by simp [show i < listed.size by omega]
      rw [this] at hun';simpa using hun'
     rw [Array.toList_setIfInBounds,List.count_set (by simp; omega),hli]
     simp;simp at hcount;omega
    ·intro j hj k hk
     rw [hset] at hj ⊢;by_cases hki : k = i
     ·simp [hki]
     ·rw [if_neg hki]
      by_cases hji : j = i
      ·subst hji; exact hbefi k hk
      ·rw [if_neg hji] at hj; exact hdown j hj k hk
    ·-- temporaries
     rw [← hd2,updT_updG];by_cases hdt : as[i].dst = some t
     ·have hlk : lk t (wT as[i] es[i]) = some (some es[i].v):=by simp [wT,hdt,lk]
      rw [show updG (wT as[i] es[i]) _ t = some es[i].v from by unfold updG; rw [hlk]]
      refine foldG_last (i:=i) (zipT_get hao hee) hlk (by rw [Nat.zero_add,hset]; simp) fun j wj hij hw hL => ?_
      rw [Nat.zero_add,hset,if_neg (by omega)] at hL
      have hj : j < as.length:=by have:=(List.getElem?_eq_some_iff.1 hw).1; rw [zipT_length hlen] at this; exact this
      have hje : j < es.length:=by omega
      have hws:=zipT_get (List.getElem?_eq_getElem hj) (List.getElem?_eq_getElem hje);rw [hw] at hws; simp at hws; subst hws
      refine lk_wT ?_;rcases unord j _ (List.getElem?_eq_getElem hj) (by omega) (by rw [hL]; simp; omega) with ⟨h0,_⟩ | ⟨_,_,h1,_⟩
      ·omega
      ·exact (apartT _ _ t h1).2.1 t hdt
     ·have hlk:=lk_wT (e:=es[i]) hdt
      rw [show updG (wT as[i] es[i]) (foldG (fun j=>listed.getD j false) T0 0 (zipT as es)) t = foldG (fun j=>listed.getD j false) T0 0 (zipT as es) t from by unfold updG; rw [hlk]]
      refine foldG_agree rfl fun j ws hw hne => ?_
      simp only [Nat.zero_add,hset] at hne;by_cases hji : j = i
      ·subst hji
       have hws:=zipT_get hao hee;rw [hw] at hws; simp at hws; subst hws
       exact hlk
      ·rw [if_neg hji] at hne; exact absurd rfl hne
    ·-- rows
     rw [updR_updG];cases hlk : lk id es[i].wr with
     | some r =>
      rw [show updG es[i].wr _ id = r from by unfold updG; rw [hlk]]
      refine foldG_last (i:=i) (by rw [List.getElem?_map,hee]; rfl) hlk (by rw [Nat.zero_add,hset]; simp) fun j wj hij hw hL => ?_
      rw [Nat.zero_add,hset,if_neg (by omega)] at hL
      have hje : j < es.length:=by have:=(List.getElem?_eq_some_iff.1 hw).1; simpa using this
      have hj : j < as.length:=by omega
      have hws : wj = es[j].wr:=by
       rw [List.getElem?_map,List.getElem?_eq_getElem hje] at hw;simpa using hw.symm
      subst hws;have hmem : id ∈ es[i].wr.map (·.1):=Classical.byContradiction fun hn=>by rw [lk_keys hn] at hlk; cases hlk
      refine lk_keys fun hm=>?_
      rcases unord j _ (List.getElem?_eq_getElem hj) (by omega) (by rw [hL]; simp; omega) with ⟨h0,_⟩ | ⟨_,_,_,h1⟩
      ·omega
      ·rcases h1 _ (List.getElem?_eq_getElem hje) with h2 | h2
       ·simp only [Foot.apart,foot,Bool.and_eq_true] at h2
        exact disj_mem h2.1 hmem (List.mem_append_right _ hm)
       ·rw [h2.1] at hmem; cases hmem
     | none =>
      rw [show updG es[i].wr (foldG (fun j=>listed.getD j false) R0 0 (es.map (·.wr))) id = foldG (fun j=>listed.getD j false) R0 0 (es.map (·.wr)) id from by unfold updG; rw [hlk]]
      refine foldG_agree rfl fun j ws hw hne => ?_
      simp only [Nat.zero_add,hset] at hne;by_cases hji : j = i
      ·subst hji
       rw [List.getElem?_map,hee] at hw;simp at hw; subst hw
       exact hlk
      ·rw [if_neg hji] at hne; exact absurd rfl hne
    ·intro j hj hjl id h1 h2
     rw [hset] at hjl;by_cases hji : j = i
     ·simp [hji] at hjl
     ·rw [if_neg hji] at hjl
      rw [hout id ?_]
      ·exact hfr j hj hjl id h1 h2
      ·rcases Nat.lt_or_gt_of_ne hji with h | h
       ·left
        have : siteWidth * j + siteWidth≤siteWidth * i:=by rw [← Nat.mul_succ]; exact Nat.mul_le_mul_left _ (by omega)
        omega
       ·right
        have : siteWidth * i + siteWidth≤siteWidth * j:=by rw [← Nat.mul_succ]; exact Nat.mul_le_mul_left _ (by omega)
        omega
    ·intro id hid
     rw [hout id (.inr ?_)]
     ·exact hfr2 id hid
     ·have : siteWidth * i + siteWidth≤siteWidth * ops.size:=by rw [← Nat.mul_succ]; exact Nat.mul_le_mul_left _ (by omega)
      omega)
   exact key.1
end
end Go.Abs
namespace Go.Abs
def Ren.le (r r' : Ren) : Prop:=(∀ p ∈ r.ren,p ∈ r'.ren)∧∀ p ∈ r.virt,p ∈ r'.virt
theorem Ren.le_refl (r : Ren) : r.le r:=⟨fun _ h => h,fun _ h => h⟩
theorem Ren.le_trans {a b c : Ren} (h : a.le b) (h' : b.le c) : a.le c:=⟨fun p hp => h'.1 p (h.1 p hp),fun p hp => h'.2 p (h.2 p hp)⟩
theorem lk_mem {α : Type} {k : Nat} {v : α} : ∀ {l : List (Nat × α)},lk k l = some v → (k,v) ∈ l
 | [],h => by simp [lk] at h
 | (j,u) :: l,h => by
  simp only [lk] at h;split at h
  ·rename_i e; subst e; simp at h; subst h; simp
  ·exact List.mem_cons_of_mem _ (lk_mem h)
theorem lk_of_mem {α : Type} {k : Nat} {v : α} : ∀ {l : List (Nat × α)},(k,v) ∈ l → ∃ u,lk k l = some u
 | (j,u) :: l,h => by
  simp only [lk];split
  ·exact ⟨u,rfl⟩
  ·rename_i hne
   rcases List.mem_cons.1 h with h | h
   ·cases h; exact absurd rfl hne
   ·exact lk_of_mem h
def Ren.keys (r : Ren) : Prop:=∀ id k k',(id,k) ∈ r.ren → (id,k') ∈ r.ren → k = k'
def newIds (σ : Ids) (r : Ren) : Ids:=fun k=>match r.ren.find? (fun p=>p.2 == k) with
 | some p => σ p.1
 | none => if k ∈ r.virt.map (·.1) then some .virt else none
def Ren.names (r : Ren) : List Nat:=r.ren.map (·.2) ++ r.virt.map (·.1)
theorem nodup_iff : ∀ {l : List Nat},nodup l = true → l.Nodup
 | [],_ => by simp
 | x :: l,h => by
  simp only [nodup,Bool.and_eq_true,Bool.not_eq_true'] at h;refine List.nodup_cons.2 ⟨?_,nodup_iff h.2⟩;have:=h.1;simpa using this
section
variable {P : Program} {Γ : Gam} {Own : Nat → Prop} {LL : List (Nat × Loc)} {FX : Nat → Option Value} {nt : Nat} {σ : Ids} {S : Nat → Prop} {w : World} {ρ : Ren}
theorem newIds_ren (hn : ρ.names.Nodup) {id k : Nat} (h : (id,k) ∈ ρ.ren) : newIds σ ρ k = σ id:=by
 unfold newIds;have hnr : (ρ.ren.map (·.2)).Nodup:=(List.nodup_append.1 hn).1;cases hf : ρ.ren.find? (fun p=>p.2 == k) with
 | none =>
  have:=List.find?_eq_none.1 hf (id,k) h;simp at this
 | some p =>
  have hp:=List.find?_some hf;have hm:=List.mem_of_find?_eq_some hf;simp at hp;simp only;have : p = (id,k):=by
   obtain ⟨i,hi,hpi⟩:=List.getElem_of_mem hm;obtain ⟨j,hj,hpj⟩:=List.getElem_of_mem h;have hij : i = j:=by
    have h1 : (ρ.ren.map (·.2))[i]'(by simpa using hi) = (ρ.ren.map (·.2))[j]'(by simpa using hj):=by simp [hpi,hpj,hp]
    rcases Nat.lt_trichotomy i j with hlt | heq | hlt
    ·exact absurd h1 (List.pairwise_iff_getElem.1 hnr i j (by simpa using hi) (by simpa using hj) hlt)
    ·exact heq
    ·exact absurd h1.symm (List.pairwise_iff_getElem.1 hnr j i (by simpa using hj) (by simpa using hi) hlt)
   subst hij;rw [← hpi,hpj]
  rw [this]
theorem newIds_virt (hn : ρ.names.Nodup) {k : Nat} (h : k ∈ ρ.virt.map (·.1)) : newIds σ ρ k = some .virt:=by
 unfold newIds;cases hf : ρ.ren.find? (fun p=>p.2 == k) with
 | none => simp only [h,if_true]
 | some p =>
  have hp:=List.find?_some hf;have hm:=List.mem_of_find?_eq_some hf;simp at hp;have h1 : k ∈ ρ.ren.map (·.2):=by rw [← hp]; exact List.mem_map_of_mem hm
  exact absurd rfl ((List.nodup_append.1 hn).2.2 k h1 k h)
theorem newIds_some {k : Nat} {l : Loc} (h : newIds σ ρ k = some l) : k ∈ ρ.names:=by
 unfold newIds at h;unfold Ren.names;split at h
 ·rename_i p hf
  have hp:=List.find?_some hf;simp at hp;rw [← hp];exact List.mem_append_left _ (List.mem_map_of_mem (List.mem_of_find?_eq_some hf))
 ·split at h
  ·rename_i hk; exact List.mem_append_right _ hk
  ·cases h
theorem nmCell_le (k : Nat) (c : AV) (r : Ren) : r.le (nmCell k c r).2:=by
 unfold nmCell;split
 ·split
  ·exact Ren.le_refl r
  ·exact ⟨fun p hp => List.mem_append_left _ hp,fun _ h => h⟩
 ·split
  ·exact Ren.le_refl r
  ·exact ⟨fun p hp => List.mem_append_left _ hp,fun _ h => h⟩
 ·split
  ·exact Ren.le_refl r
  ·exact ⟨fun p hp => List.mem_append_left _ hp,fun _ h => h⟩
 ·split
  ·exact Ren.le_refl r
  ·exact ⟨fun p hp => List.mem_append_left _ hp,fun _ h => h⟩
 ·split
  ·exact Ren.le_refl r
  ·exact ⟨fun p hp => List.mem_append_left _ hp,fun _ h => h⟩
 ·split
  ·exact Ren.le_refl r
  ·exact ⟨fun p hp => List.mem_append_left _ hp,fun _ h => h⟩
 ·split
  ·exact Ren.le_refl r
  ·exact ⟨fun p hp => List.mem_append_left _ hp,fun _ h => h⟩
 ·split
  ·exact Ren.le_refl r
  ·exact ⟨fun p hp => List.mem_append_left _ hp,fun _ h => h⟩
 ·split
  ·exact Ren.le_refl r
  ·exact ⟨fun p hp => List.mem_append_left _ hp,fun _ h => h⟩
 ·exact ⟨fun _ h => h,fun p hp => List.mem_append_left _ hp⟩
 ·exact Ren.le_refl r
 ·exact Ren.le_refl r
 ·exact Ren.le_refl r
 ·exact Ren.le_refl r
 ·exact Ren.le_refl r
 ·exact Ren.le_refl r
 ·exact Ren.le_refl r
theorem Ren.keys_add {r : Ren} {id k : Nat} {v : List (Nat × Nat)} (h : r.keys) (hl : lk id r.ren = none) : Ren.keys ⟨r.ren ++ [(id,k)],v⟩:=by
 intro i a b ha hb;have hno : ∀ q,(id,q) ∉ r.ren:=fun q hq => by obtain ⟨u,hu⟩:=lk_of_mem hq; rw [hl] at hu; cases hu
 simp only [List.mem_append,List.mem_singleton,Prod.mk.injEq] at ha hb;rcases ha with ha | ⟨rfl,rfl⟩ <;> rcases hb with hb | ⟨h1,h2⟩
 ·exact h i a b ha hb
 ·subst h1; exact absurd ha (hno a)
 ·exact absurd hb (hno b)
 ·exact h2.symm
theorem nmCell_keys (k : Nat) (c : AV) {r : Ren} (h : r.keys) : (nmCell k c r).2.keys:=by
 unfold nmCell;split
 ·split
  ·exact h
  ·exact Ren.keys_add h (by assumption)
 ·split
  ·exact h
  ·exact Ren.keys_add h (by assumption)
 ·split
  ·exact h
  ·exact Ren.keys_add h (by assumption)
 ·split
  ·exact h
  ·exact Ren.keys_add h (by assumption)
 ·split
  ·exact h
  ·exact Ren.keys_add h (by assumption)
 ·split
  ·exact h
  ·exact Ren.keys_add h (by assumption)
 ·split
  ·exact h
  ·exact Ren.keys_add h (by assumption)
 ·split
  ·exact h
  ·exact Ren.keys_add h (by assumption)
 ·split
  ·exact h
  ·exact Ren.keys_add h (by assumption)
 all_goals exact h
theorem nmCell_rel (hn : ρ.names.Nodup) {k : Nat} {c : AV} {r : Ren} (hle : (nmCell k c r).2.le ρ) {v : Value} (h : RelV σ S w v c) : RelV (newIds σ ρ) S w v (nmCell k c r).1:=by
 unfold nmCell at hle ⊢;have slice : ∀ {id off len k'},RelV σ S w v (.slice id off len) → (id,k') ∈ ρ.ren → RelV (newIds σ ρ) S w v (.slice k' off len):=by
  intro id off len k' hv hm;have he:=newIds_ren (σ:=σ) hn hm;cases hv with
  | imm h => cases h
  | sliceV _ a hσ => exact .sliceV k' a (he.trans hσ)
  | slice _ _ _ cap b sz n c a hσ h1 h2 h3 h4 => exact .slice k' _ _ cap b sz n c a (he.trans hσ) h1 h2 h3 h4
 have ptr : ∀ {id idx off k'},RelV σ S w v (.ptr id idx off) → (id,k') ∈ ρ.ren → RelV (newIds σ ρ) S w v (.ptr k' idx off):=by
  intro id idx off k' hv hm;have he:=newIds_ren (σ:=σ) hn hm;cases hv with
  | imm h => cases h
  | ptr _ _ _ b sz n c hσ h1 => exact .ptr k' _ _ b sz n c (he.trans hσ) h1
 have mp : ∀ {id k'},RelV σ S w v (.mapp id) → (id,k') ∈ ρ.ren → RelV (newIds σ ρ) S w v (.mapp k'):=by
  intro id k' hv hm;have he:=newIds_ren (σ:=σ) hn hm;cases hv with
  | imm h => cases h
  | mapp _ r' hσ => exact .mapp k' r' (he.trans hσ)
 have yl : ∀ {id k'},RelV σ S w v (.yieldT id) → (id,k') ∈ ρ.ren → RelV (newIds σ ρ) S w v (.yieldT k'):=by
  intro id k' hv hm;have he:=newIds_ren (σ:=σ) hn hm;cases hv with
  | imm h => cases h
  | yieldV _ r' hσ => exact .yieldV k' r' (he.trans hσ)
 have itr : ∀ {id k'},RelV σ S w v (.itT id) → (id,k') ∈ ρ.ren → RelV (newIds σ ρ) S w v (.itT k'):=by
  intro id k' hv hm;have he:=newIds_ren (σ:=σ) hn hm;cases hv with
  | imm h => cases h
  | itV _ r' m' hσ => exact .itV k' r' m' (he.trans hσ)
 have tS : ∀ {id len k'},RelV σ S w v (.tabS id len) → (id,k') ∈ ρ.ren → RelV (newIds σ ρ) S w v (.tabS k' len):=by
  intro id len k' hv hm;have he:=newIds_ren (σ:=σ) hn hm;cases hv with
  | imm h => cases h
  | tabV _ a hσ => exact .tabV k' a (he.trans hσ)
  | tabS _ b sz n c inn hσ => exact .tabS k' b sz _ c inn (he.trans hσ)
 have tP : ∀ {id idx off k'},RelV σ S w v (.tabP id idx off) → (id,k') ∈ ρ.ren → RelV (newIds σ ρ) S w v (.tabP k' idx off):=by
  intro id idx off k' hv hm;have he:=newIds_ren (σ:=σ) hn hm;cases hv with
  | imm h => cases h
  | tabP _ _ _ b sz n c inn hσ h1 => exact .tabP k' _ _ b sz n c inn (he.trans hσ) h1
 have iS : ∀ {id p len k'},RelV σ S w v (.inS id p len) → (id,k') ∈ ρ.ren → RelV (newIds σ ρ) S w v (.inS k' p len):=by
  intro id p len k' hv hm;have he:=newIds_ren (σ:=σ) hn hm;cases hv with
  | imm h => cases h
  | inS _ _ _ b sz n c inn b' c' hσ h1 h2 => exact .inS k' _ _ b sz n c inn b' c' (he.trans hσ) h1 h2
  | in0 _ _ b sz n c inn a hσ h1 => exact .in0 k' _ b sz n c inn a (he.trans hσ) h1
 have iP : ∀ {id p j k'},RelV σ S w v (.inP id p j) → (id,k') ∈ ρ.ren → RelV (newIds σ ρ) S w v (.inP k' p j):=by
  intro id p j k' hv hm;have he:=newIds_ren (σ:=σ) hn hm;cases hv with
  | imm h => cases h
  | inP _ _ _ b sz n c inn b' c' hσ h1 => exact .inP k' _ _ b sz n c inn b' c' (he.trans hσ) h1
 split at hle
 ·split at hle
  ·rename_i k' hk
   simp only [hk];exact slice h (hle.1 _ (lk_mem hk))
  ·rename_i hk
   simp only [hk];exact slice h (hle.1 _ (by simp))
 ·split at hle
  ·rename_i k' hk
   simp only [hk];exact ptr h (hle.1 _ (lk_mem hk))
  ·rename_i hk
   simp only [hk];exact ptr h (hle.1 _ (by simp))
 ·split at hle
  ·rename_i k' hk
   simp only [hk];exact mp h (hle.1 _ (lk_mem hk))
  ·rename_i hk
   simp only [hk];exact mp h (hle.1 _ (by simp))
 ·split at hle
  ·rename_i k' hk
   simp only [hk];exact yl h (hle.1 _ (lk_mem hk))
  ·rename_i hk
   simp only [hk];exact yl h (hle.1 _ (by simp))
 ·split at hle
  ·rename_i k' hk
   simp only [hk];exact itr h (hle.1 _ (lk_mem hk))
  ·rename_i hk
   simp only [hk];exact itr h (hle.1 _ (by simp))
 ·split at hle
  ·rename_i k' hk
   simp only [hk];exact tS h (hle.1 _ (lk_mem hk))
  ·rename_i hk
   simp only [hk];exact tS h (hle.1 _ (by simp))
 ·split at hle
  ·rename_i k' hk
   simp only [hk];exact tP h (hle.1 _ (lk_mem hk))
  ·rename_i hk
   simp only [hk];exact tP h (hle.1 _ (by simp))
 ·split at hle
  ·rename_i k' hk
   simp only [hk];exact iS h (hle.1 _ (lk_mem hk))
  ·rename_i hk
   simp only [hk];exact iS h (hle.1 _ (by simp))
 ·split at hle
  ·rename_i k' hk
   simp only [hk];exact iP h (hle.1 _ (lk_mem hk))
  ·rename_i hk
   simp only [hk];exact iP h (hle.1 _ (by simp))
 ·rename_i sz
  have hv:=newIds_virt (σ:=σ) hn (k:=k) (List.mem_map_of_mem (f:=(·.1)) (hle.2 (k,sz) (by simp)))
  cases h with
  | imm h => cases h; exact .sliceV k _ hv
 ·cases h with
  | imm h => exact .imm h
  | func f vs cs hl hr => exact .func _ vs [] hl fun i v c h1 h2 => by simp at h2
 ·exact .imm (.any v)
 ·exact .imm (.any v)
 ·exact .imm (.any v)
 ·exact .imm (.any v)
 ·exact .imm (.any v)
 ·rename_i h1 h2 h3 hy hit hu1 hu2 hu3 hu4 h4 hf0 h5 h6 h7 h8 h9
  cases h with
  | imm h => exact .imm h
  | tabV id a h => exact absurd rfl (hu1 _ _)
  | tabS id b sz n c inn h => exact absurd rfl (hu1 _ _)
  | tabP id idx off b sz n c inn h h1 => exact absurd rfl (hu2 _ _ _)
  | inS id p len b sz n c inn b' c' h h1 h2 => exact absurd rfl (hu3 _ _ _)
  | in0 id p b sz n c inn a h h1 => exact absurd rfl (hu3 _ _ _)
  | inP id p j b sz n c inn b' c' h h1 => exact absurd rfl (hu4 _ _ _)
  | sliceV id a h => exact absurd rfl (h1 _ _ _)
  | slice id off len cap b sz n c a h => exact absurd rfl (h1 _ _ _)
  | ptr id idx off b sz n c h => exact absurd rfl (h2 _ _ _)
  | mapp id r h => exact absurd rfl (h3 _)
  | yieldV q l h => exact absurd rfl (hy _)
  | itV id r m h => exact absurd rfl (hit _)
  | stampV id n h => exact absurd rfl (h9 _)
  | agg vs cs hl hr => exact absurd rfl (h5 _)
  | tuple vs cs hl hr => exact absurd rfl (h6 _)
  | func f vs cs hl hr => exact absurd rfl (h7 _ _)
  | meth f u b hb => exact absurd rfl (h8 _ _)
theorem nmCells_spec {f : Nat → Nat} : ∀ {cs : List AV} {j : Nat} {r : Ren},r.le (nmCells f j cs r).2∧(r.keys → (nmCells f j cs r).2.keys)∧(nmCells f j cs r).1.length = cs.length ∧
  (ρ.names.Nodup → (nmCells f j cs r).2.le ρ → ∀ (i : Nat) c c' v,cs[i]? = some c → (nmCells f j cs r).1[i]? = some c' → RelV σ S w v c → RelV (newIds σ ρ) S w v c')
 | [],j,r => ⟨Ren.le_refl r,fun h=>h,rfl,by simp [nmCells]⟩
 | c :: cs,j,r => by
  obtain ⟨h1,h2,h3,h4⟩:=nmCells_spec (f:=f) (cs:=cs) (j:=j + 1) (r:=(nmCell (f j) c r).2);refine ⟨Ren.le_trans (nmCell_le ..) h1,fun h=>h2 (nmCell_keys _ _ h),by simp [nmCells,h3],fun hn hle i x x' v hx hx' hv => ?_⟩
  cases i with
  | zero =>
   simp [nmCells] at hx hx';subst hx hx';exact nmCell_rel hn (Ren.le_trans h1 hle) hv
  | succ i =>
   simp [nmCells] at hx hx';exact h4 hn hle i x x' v hx hx' hv
theorem nmVal_spec (t : Nat) (v : AV) (r : Ren) : r.le (nmVal t v r).2∧(r.keys → (nmVal t v r).2.keys) ∧
  (ρ.names.Nodup → (nmVal t v r).2.le ρ → ∀ u,RelV σ S w u v → RelV (newIds σ ρ) S w u (nmVal t v r).1):=by
 unfold nmVal;split
 ·rename_i cs
  obtain ⟨h1,h2,h3,h4⟩:=nmCells_spec (σ:=σ) (S:=S) (w:=w) (ρ:=ρ) (f:=canon t) (cs:=cs) (j:=0) (r:=r);refine ⟨h1,h2,fun hn hle u hu => ?_⟩
  obtain ⟨vs,rfl,hl,hr⟩:=hu.agg_inv;refine .agg vs _ (by simpa [h3] using hl) fun i x c hx hc => ?_
  have hi : i < cs.length:=by have:=(List.getElem?_eq_some_iff.1 hc).1; simp [h3] at this; exact this
  exact h4 hn hle i cs[i] c x (List.getElem?_eq_getElem hi) hc (hr i x _ hx (List.getElem?_eq_getElem hi))
 ·rename_i f cs
  obtain ⟨h1,h2,h3,h4⟩:=nmCells_spec (σ:=σ) (S:=S) (w:=w) (ρ:=ρ) (f:=canon t) (cs:=cs) (j:=0) (r:=r);refine ⟨h1,h2,fun hn hle u hu => ?_⟩
  have hinv : ∃ vs,u = .func (.func f) #[] vs∧vs.size = cs.length∧∀ (i : Nat) v c,vs[i]? = some v → cs[i]? = some c → RelV σ S w v c:=by
   cases hu with
   | imm hu => cases hu with | func _ vs _ hl hr => exact ⟨vs,rfl,hl,fun i v c h1 h2 => .imm (hr i v c h1 h2)⟩
   | func _ vs _ hl hr => exact ⟨vs,rfl,hl,hr⟩
  obtain ⟨vs,rfl,hl,hr⟩:=hinv;refine .func f vs _ (by simpa [h3] using hl) fun i x c hx hc => ?_
  have hi : i < cs.length:=by have:=(List.getElem?_eq_some_iff.1 hc).1; simp [h3] at this; exact this
  exact h4 hn hle i cs[i] c x (List.getElem?_eq_getElem hi) hc (hr i x _ hx (List.getElem?_eq_getElem hi))
 ·rename_i f cs
  obtain ⟨h1,h2,h3,h4⟩:=nmCells_spec (σ:=σ) (S:=S) (w:=w) (ρ:=ρ) (f:=canon t) (cs:=cs) (j:=0) (r:=r);refine ⟨h1,h2,fun hn hle u hu => ?_⟩
  have hinv : ∃ v,u = .func (.func f) #[v] #[]∧RelV σ S w v (.agg cs):=by
   cases hu with
   | imm hu => cases hu with | meth _ v _ hb => exact ⟨v,rfl,.imm hb⟩
   | meth _ v _ hb => exact ⟨v,rfl,hb⟩
  obtain ⟨v,rfl,hv⟩:=hinv;obtain ⟨vs,rfl,hl,hr⟩:=hv.agg_inv;refine .meth f _ _ (.agg vs _ (by simpa [h3] using hl) fun i x c hx hc => ?_)
  have hi : i < cs.length:=by have:=(List.getElem?_eq_some_iff.1 hc).1; simp [h3] at this; exact this
  exact h4 hn hle i cs[i] c x (List.getElem?_eq_getElem hi) hc (hr i x _ hx (List.getElem?_eq_getElem hi))
 ·rename_i f b _
  refine ⟨nmCell_le ..,fun h=>nmCell_keys _ _ h,fun hn hle u hu => ?_⟩
  have hinv : ∃ v,u = .func (.func f) #[v] #[]∧RelV σ S w v b:=by
   cases hu with
   | imm hu => cases hu with | meth _ v _ hb => exact ⟨v,rfl,.imm hb⟩
   | meth _ v _ hb => exact ⟨v,rfl,hb⟩
  obtain ⟨v,rfl,hv⟩:=hinv;exact .meth f _ _ (nmCell_rel hn hle hv)
 ·exact ⟨nmCell_le ..,fun h=>nmCell_keys _ _ h,fun hn hle u hu => nmCell_rel hn hle hu⟩
theorem nmTm_spec {a : Act} : ∀ {l : List (Nat × AV)} {r : Ren},r.le (nmTm l r).2∧(r.keys → (nmTm l r).2.keys) ∧
  (ρ.names.Nodup → (nmTm l r).2.le ρ → (∀ p ∈ l,RelV σ S w (a.tmps.getD p.1 undef) p.2) → ∀ p ∈ (nmTm l r).1,RelV (newIds σ ρ) S w (a.tmps.getD p.1 undef) p.2)
 | [],r => ⟨Ren.le_refl r,fun h=>h,by simp [nmTm]⟩
 | (t,v) :: l,r => by
  obtain ⟨g1,g2,g3⟩:=nmVal_spec (σ:=σ) (S:=S) (w:=w) (ρ:=ρ) t v r;obtain ⟨h1,h2,h3⟩:=nmTm_spec (a:=a) (l:=l) (r:=(nmVal t v r).2);refine ⟨Ren.le_trans g1 h1,fun h=>h2 (g2 h),fun hn hle hl p hp => ?_⟩
  simp only [nmTm,List.mem_cons] at hp;rcases hp with rfl | hp
  ·exact g3 hn (Ren.le_trans h1 hle) _ (hl (t,v) (by simp))
  ·exact h3 hn hle (fun q hq => hl q (List.mem_cons_of_mem _ hq)) p hp
theorem RowOk.rename {σ' : Ids} {id k : Nat} {r : Row} (h : RowOk P Γ σ S w id r) (hk : σ' k = σ id) (hb : ∀ cs,r ≠ .box cs) (hm : ∀ m,r ≠ .num m) (hi : ∀ left cur,r ≠ .iter left cur) (hv : ∀ k kv,r ≠ .mpV k kv) (he : ∀ ks keys vals i q,r ≠ .mpE ks keys vals i q) : RowOk P Γ σ' S w k r:=by
 cases r with
 | arr sz es =>
  rcases h with ⟨h1,h2⟩ | ⟨b,c,cs,t,h1,h2⟩
  ·exact .inl ⟨hk.trans h1,h2⟩
  ·exact .inr ⟨b,c,cs,t,hk.trans h1,h2⟩
 | box cs => exact absurd rfl (hb cs)
 | mp q kv =>
  obtain ⟨r,es,clock,h1,h2⟩:=h;exact ⟨r,es,clock,hk.trans h1,h2⟩
 | mpS ks keys vals =>
  obtain ⟨r,es,clock,h1,h2⟩:=h;exact ⟨r,es,clock,hk.trans h1,h2⟩
 | mpV k kv => exact absurd rfl (hv k kv)
 | iter left cur => exact absurd rfl (hi left cur)
 | mpE ks keys vals i q => exact absurd rfl (he ks keys vals i q)
 | num m => exact absurd rfl (hm m)
 | log q xs =>
  obtain ⟨l,C,h1,h2⟩:=h;exact ⟨l,C,hk.trans h1,h2⟩
 | tab sz es =>
  rcases h with ⟨h1,h2⟩ | ⟨l,h1,h2⟩
  ·exact .inl ⟨hk.trans h1,h2⟩
  ·exact .inr ⟨l,hk.trans h1,h2⟩
theorem nmNum_spec (k m : Nat) (r : Ren) : r.le (nmNum k m r).2∧(r.keys → (nmNum k m r).2.keys)∧(m,(nmNum k m r).1) ∈ (nmNum k m r).2.ren:=by
 unfold nmNum;split
 ·rename_i k' hk; exact ⟨Ren.le_refl r,fun h=>h,lk_mem hk⟩
 ·rename_i hk; exact ⟨⟨fun p hp => List.mem_append_left _ hp,fun _ h => h⟩,fun h=>Ren.keys_add h hk,by simp⟩
theorem renV1_rel (hn : ρ.names.Nodup) {r : Ren} (hr : ∀ p ∈ r.ren,p ∈ ρ.ren) {v : Value} {x : AV} (h : RelV σ S w v x) : RelV (newIds σ ρ) S w v (renV1 r x):=by
 unfold renV1;split
 ·cases h with | imm h => exact .imm h
 ·cases h with | imm h => exact .imm h
 ·rename_i id idx off
  split
  ·rename_i k hk
   have he:=newIds_ren (σ:=σ) hn (hr _ (lk_mem hk));cases h with
   | imm h => cases h
   | ptr _ _ _ b sz n c hσ h1 => exact .ptr k _ _ b sz n c (he.trans hσ) h1
  ·exact .imm (.any v)
 ·exact .imm (.any v)
theorem renV_rel (hn : ρ.names.Nodup) {r : Ren} (hr : ∀ p ∈ r.ren,p ∈ ρ.ren) {v : Value} {x : AV} (h : RelV σ S w v x) : RelV (newIds σ ρ) S w v (renV r x):=by
 unfold renV;split
 ·rename_i cs
  have agg : ∃ vs,v = .agg vs∧vs.size = cs.length∧∀ (i : Nat) v c,vs[i]? = some v → cs[i]? = some c → RelV σ S w v c:=by
   cases h with
   | imm hv => cases hv with | agg vs _ hl hr => exact ⟨vs,rfl,hl,fun i v c h1 h2 => .imm (hr i v c h1 h2)⟩
   | agg vs _ hl hr => exact ⟨vs,rfl,hl,hr⟩
  obtain ⟨vs,rfl,hl,hrel⟩:=agg;refine .agg vs _ (by simpa using hl) fun i u c hu hc => ?_
  rw [List.getElem?_map] at hc;cases hy : cs[i]? with
  | none => rw [hy] at hc; cases hc
  | some y =>
   rw [hy] at hc;simp only [Option.map_some,Option.some.injEq] at hc;subst hc;exact renV1_rel hn hr (hrel i u y hu hy)
 ·exact renV1_rel hn hr h
theorem nmRows_spec {rows : List (Nat × Row)} (hR : RowsOk P Γ Own σ S w (fun i=>lk i rows)) : ∀ {l : List (Nat × Nat)} {r : Ren},r.le (nmRows rows l r).2∧(r.keys → (nmRows rows l r).2.keys) ∧
  (ρ.names.Nodup → (∀ p ∈ l,p ∈ ρ.ren) → (nmRows rows l r).2.le ρ → (∀ p ∈ (nmRows rows l r).1,p.2.scalars = true) → ∀ p ∈ (nmRows rows l r).1,RowOk P Γ (newIds σ ρ) S w p.1 p.2∧∃ id r0,(id,p.1) ∈ l∧lk id rows = some r0)
 | [],r => ⟨Ren.le_refl r,fun h=>h,by simp [nmRows]⟩
 | (id,k) :: l,r => by
  unfold nmRows;split
  ·rename_i cs hrow
   obtain ⟨g1,g2,g3,g4⟩:=nmCells_spec (σ:=σ) (S:=S) (w:=w) (ρ:=ρ) (f:=canon2 k) (cs:=cs) (j:=0) (r:=r);obtain ⟨h1,h2,h3⟩:=nmRows_spec hR (l:=l) (r:=(nmCells (canon2 k) 0 cs r).2);refine ⟨Ren.le_trans g1 h1,fun h=>h2 (g2 h),fun hn hl hle hsc p hp => ?_⟩
   simp only [List.mem_cons] at hp;rcases hp with rfl | hp
   ·have hk:=newIds_ren (σ:=σ) hn (hl (id,k) (by simp))
    obtain ⟨b,cells,t,q1,q2,q3,q4,q5⟩:=hR.ok id _ hrow;refine ⟨⟨b,cells,t,by rw [hk,q1,g3],q2,by rw [q3,g3],fun x hx => ?_,fun i x hx => ?_⟩,id,_,by simp,hrow⟩
    ·have:=hsc (k,.box (nmCells (canon2 k) 0 cs r).1) (by simp)
     simp only [Row.scalars,List.all_eq_true] at this;exact this x hx
    ·have hi' : i < cs.length:=by have:=(List.getElem?_eq_some_iff.1 hx).1; rw [g3] at this; exact this
     obtain ⟨v,hv,hrel⟩:=q5 i cs[i] (List.getElem?_eq_getElem hi');exact ⟨v,hv,g4 hn (Ren.le_trans h1 hle) i cs[i] x v (List.getElem?_eq_getElem hi') hx hrel⟩
   ·obtain ⟨q1,i',r0,q2,q3⟩:=h3 hn (fun p hp => hl p (List.mem_cons_of_mem _ hp)) hle (fun q hq => hsc q (by first | exact List.mem_cons_of_mem _ hq | exact hq)) p hp
    exact ⟨q1,i',r0,List.mem_cons_of_mem _ q2,q3⟩
  ·rename_i m hrow
   obtain ⟨g1,g2,g3⟩:=nmNum_spec (canon2 k 0) m r;obtain ⟨h1,h2,h3⟩:=nmRows_spec hR (l:=l) (r:=(nmNum (canon2 k 0) m r).2);refine ⟨Ren.le_trans g1 h1,fun h=>h2 (g2 h),fun hn hl hle hsc p hp => ?_⟩
   simp only [List.mem_cons] at hp;rcases hp with rfl | hp
   ·have hk:=newIds_ren (σ:=σ) hn (hl (id,k) (by simp))
    have hk2:=newIds_ren (σ:=σ) hn (hle.1 _ (h1.1 _ g3));obtain ⟨lp,C,q1,q2⟩:=hR.ok id _ hrow;exact ⟨⟨lp,C,hk.trans q1,hk2.trans q2⟩,id,_,by simp,hrow⟩
   ·obtain ⟨q1,i',r0,q2,q3⟩:=h3 hn (fun p hp => hl p (List.mem_cons_of_mem _ hp)) hle (fun q hq => hsc q (by first | exact List.mem_cons_of_mem _ hq | exact hq)) p hp
    exact ⟨q1,i',r0,List.mem_cons_of_mem _ q2,q3⟩
  ·rename_i left cur hrow
   obtain ⟨h1,h2,h3⟩:=nmRows_spec hR (l:=l) (r:=r);refine ⟨h1,h2,fun hn hl hle hsc p hp => ?_⟩
   simp only [List.mem_cons] at hp;rcases hp with rfl | hp
   ·have hk:=newIds_ren (σ:=σ) hn (hl (id,k) (by simp))
    obtain ⟨rr,m,es,clock,since,c0,seen,left',q1,q0,q2,q3,q4,q5,q6,q7,qp,q8,_⟩:=hR.ok id _ hrow;refine ⟨⟨rr,m,es,clock,since,c0,seen,left'.map fun p=>(p.1,renV r p.2),hk.trans q1,q0,q2,q3,q4,q5,q6,q7,qp.map _,⟨by rw [q8.1]; simp,fun i x hx => ?_⟩,by simp⟩,id,_,by simp,hrow⟩
    rw [List.getElem?_map] at hx;cases hy : left'[i]? with
    | none => rw [hy] at hx; cases hx
    | some y =>
     rw [hy] at hx;simp only [Option.map_some,Option.some.injEq] at hx;subst hx;obtain ⟨e,g1,g2,g3⟩:=q8.2 i y hy;exact ⟨e,g1,g2,renV_rel hn (fun p hp => hle.1 _ (h1.1 _ hp)) g3⟩
   ·obtain ⟨q1,i',r0,q2,q3⟩:=h3 hn (fun p hp => hl p (List.mem_cons_of_mem _ hp)) hle (fun q hq => hsc q (by first | exact List.mem_cons_of_mem _ hq | exact hq)) p hp
    exact ⟨q1,i',r0,List.mem_cons_of_mem _ q2,q3⟩
  ·obtain ⟨h1,h2,h3⟩:=nmRows_spec hR (l:=l) (r:=r)
   refine ⟨h1,h2,fun hn hl hle hsc p hp => ?_⟩
   obtain ⟨q1,i',r0,q2,q3⟩:=h3 hn (fun p hp => hl p (List.mem_cons_of_mem _ hp)) hle (fun q hq => hsc q (by first | exact List.mem_cons_of_mem _ hq | exact hq)) p hp
   exact ⟨q1,i',r0,List.mem_cons_of_mem _ q2,q3⟩
  ·obtain ⟨h1,h2,h3⟩:=nmRows_spec hR (l:=l) (r:=r)
   refine ⟨h1,h2,fun hn hl hle hsc p hp => ?_⟩
   obtain ⟨q1,i',r0,q2,q3⟩:=h3 hn (fun p hp => hl p (List.mem_cons_of_mem _ hp)) hle (fun q hq => hsc q (by first | exact List.mem_cons_of_mem _ hq | exact hq)) p hp
   exact ⟨q1,i',r0,List.mem_cons_of_mem _ q2,q3⟩
  ·rename_i ks keys vals hrow
   obtain ⟨h1,h2,h3⟩:=nmRows_spec hR (l:=l) (r:=r);refine ⟨h1,h2,fun hn hl hle hsc p hp => ?_⟩
   simp only [List.mem_cons] at hp;rcases hp with rfl | hp
   ·have hk:=newIds_ren (σ:=σ) hn (hl (id,k) (by simp))
    obtain ⟨rr,es,clock,q1,q2,q3⟩:=hR.ok id _ hrow;exact ⟨⟨rr,es,clock,hk.trans q1,q2,q3.sort⟩,id,_,by simp,hrow⟩
   ·obtain ⟨q1,i',r0,q2,q3⟩:=h3 hn (fun p hp => hl p (List.mem_cons_of_mem _ hp)) hle (fun q hq => hsc q (by first | exact List.mem_cons_of_mem _ hq | exact hq)) p hp
    exact ⟨q1,i',r0,List.mem_cons_of_mem _ q2,q3⟩
  ·rename_i row hnb hnm hni hnv hne _ hrow
   obtain ⟨h1,h2,h3⟩:=nmRows_spec hR (l:=l) (r:=r);refine ⟨h1,h2,fun hn hl hle hsc p hp => ?_⟩
   simp only [List.mem_cons] at hp;rcases hp with rfl | hp
   ·have hk:=newIds_ren (σ:=σ) hn (hl (id,k) (by simp))
    exact ⟨(hR.ok id _ hrow).rename hk hnb hnm hni hnv hne,id,row,by simp,hrow⟩
   ·obtain ⟨q1,i',r0,q2,q3⟩:=h3 hn (fun p hp => hl p (List.mem_cons_of_mem _ hp)) hle (fun q hq => hsc q (by first | exact List.mem_cons_of_mem _ hq | exact hq)) p hp
    exact ⟨q1,i',r0,List.mem_cons_of_mem _ q2,q3⟩
  ·obtain ⟨h1,h2,h3⟩:=nmRows_spec hR (l:=l) (r:=r)
   refine ⟨h1,h2,fun hn hl hle hsc p hp => ?_⟩
   obtain ⟨q1,i',r0,q2,q3⟩:=h3 hn (fun p hp => hl p (List.mem_cons_of_mem _ hp)) hle (fun q hq => hsc q (by first | exact List.mem_cons_of_mem _ hq | exact hq)) p hp
   exact ⟨q1,i',r0,List.mem_cons_of_mem _ q2,q3⟩
end
end Go.Abs
namespace Go.Abs
theorem keepT_mem : ∀ {keep : List Nat} {tm : List (Nat × AV)} {p : Nat × AV},p ∈ keepT keep tm → lk p.1 tm = some p.2
 | [],tm,p,h => by simp [keepT] at h
 | t :: ts,tm,p,h => by
  unfold keepT at h;split at h
  ·rename_i v hv
   rcases List.mem_cons.1 h with rfl | h
   ·exact hv
   ·exact keepT_mem h
  ·exact keepT_mem h
section
variable {P : Program} {Γ : Gam} {Own : Nat → Prop} {LL : List (Nat × Loc)} {FX : Nat → Option Value} {LE : List (Nat × Option Nat)} {nt : Nat} {S0 : Nat → Prop} {w0 : World}
theorem Sim.keep {σ : Ids} {S : Nat → Prop} {w : World} {T T' : Nat → Option AV} {R : Nat → Option Row} {a : Act} (h : Sim P Γ Own LL FX nt σ S w T R a) (hT : ∀ t x,T' t = some x → T t = some x) : Sim P Γ Own LL FX nt σ S w T' R a :=
 ⟨⟨fun t x hx => h.tmps.1 t x (hT t x hx),h.tmps.2⟩,h.rows,h.size,h.marks,h.fix,h.own,h.lent⟩
theorem nmArrs_spec {σ : Ids} {S : Nat → Prop} {w : World} {ρ : Ren} {rows : List (Nat × Row)} (hR : RowsOk P Γ Own σ S w (fun i=>lk i rows)) (hn : ρ.names.Nodup) : ∀ {l : List (Nat × Nat)},(∀ p ∈ l,p ∈ ρ.ren) →
  ∀ p ∈ nmArrs rows l,RowOk P Γ (newIds σ ρ) S w p.1 p.2∧∃ id r0,(id,p.1) ∈ l∧lk id rows = some r0
 | [],_,p,hp => by simp [nmArrs] at hp
 | (id,k) :: l,hl,p,hp => by
  have hk:=newIds_ren (σ:=σ) hn (hl (id,k) (by simp))
  have ih:=nmArrs_spec hR hn (l:=l) fun p hp => hl p (List.mem_cons_of_mem _ hp)
  unfold nmArrs at hp;split at hp
  ·rename_i sz es hrow
   rcases List.mem_cons.1 hp with rfl | hp
   ·exact ⟨(hR.ok id _ hrow).rename hk (by simp) (by simp) (by simp) (by simp) (by simp),id,_,by simp,hrow⟩
   ·obtain ⟨q1,i',r0,q2,q3⟩:=ih p hp; exact ⟨q1,i',r0,List.mem_cons_of_mem _ q2,q3⟩
  ·rename_i q kv hrow
   rcases List.mem_cons.1 hp with rfl | hp
   ·exact ⟨(hR.ok id _ hrow).rename hk (by simp) (by simp) (by simp) (by simp) (by simp),id,_,by simp,hrow⟩
   ·obtain ⟨q1,i',r0,q2,q3⟩:=ih p hp; exact ⟨q1,i',r0,List.mem_cons_of_mem _ q2,q3⟩
  ·rename_i q kv hrow
   rcases List.mem_cons.1 hp with rfl | hp
   ·exact ⟨(hR.ok id _ hrow).rename hk (by simp) (by simp) (by simp) (by simp) (by simp),id,_,by simp,hrow⟩
   ·obtain ⟨q1,i',r0,q2,q3⟩:=ih p hp; exact ⟨q1,i',r0,List.mem_cons_of_mem _ q2,q3⟩
  ·rename_i q kv hrow
   rcases List.mem_cons.1 hp with rfl | hp
   ·exact ⟨(hR.ok id _ hrow).rename hk (by simp) (by simp) (by simp) (by simp) (by simp),id,_,by simp,hrow⟩
   ·obtain ⟨q1,i',r0,q2,q3⟩:=ih p hp; exact ⟨q1,i',r0,List.mem_cons_of_mem _ q2,q3⟩
  ·rename_i q kv hrow
   rcases List.mem_cons.1 hp with rfl | hp
   ·exact ⟨(hR.ok id _ hrow).rename hk (by simp) (by simp) (by simp) (by simp) (by simp),id,_,by simp,hrow⟩
   ·obtain ⟨q1,i',r0,q2,q3⟩:=ih p hp; exact ⟨q1,i',r0,List.mem_cons_of_mem _ q2,q3⟩
  ·obtain ⟨q1,i',r0,q2,q3⟩:=ih p hp; exact ⟨q1,i',r0,List.mem_cons_of_mem _ q2,q3⟩
theorem lk_ins (k : Nat) (r : Row) (i : Nat) : ∀ l : List (Nat × Row),lk i (insRow k r l) = if k = i then some r else lk i l
 | [] => by simp [insRow,lk]
 | (j,s) :: l => by
  simp only [insRow];split
  ·simp only [lk]
  ·rename_i h
   simp only [lk,lk_ins k r i l];by_cases e : j = i
   ·subst e; rw [if_pos rfl,if_neg (by omega)]; simp
   ·rw [if_neg e,if_neg e]
theorem lk_sort (i : Nat) : ∀ l : List (Nat × Row),lk i (sortRows l) = lk i l
 | [] => rfl
 | (k,r) :: l => by
  simp only [sortRows,lk_ins,lk_sort i l,lk]
theorem norm_sound {keep : List Nat} {fr fr' : Fr} {σ : Ids} {S : Nat → Prop} {w : World} {a : Act} (h : norm keep fr = some fr') (hsim : Sim P Γ Own LL FX nt σ S w (fun t=>lk t fr.tm) (fun i=>lk i fr.rows) a)
  (hLE : LE.map (·.1) = LL.map (·.1)) (hlent : fr.lent = LE) :
  ∃ σ',Sim P Γ Own LL FX nt σ' S w (fun t=>lk t fr'.tm) (fun i=>lk i fr'.rows) a∧(∀ id,fr'.next≤id → σ' id = none)∧fr'.lent = LE:=by
 unfold norm at h;simp only at h;generalize hx : nmTm (keepT keep fr.tm) ⟨fr.lent.map fun p=>(p.1,p.1),[]⟩ = x at h
 generalize hy : nmRows fr.rows x.2.ren x.2 = y at h;split at h
 ·rename_i hc
  simp only [Bool.and_eq_true] at hc;obtain ⟨⟨hnd,hlt⟩,hsc⟩:=hc;simp only [Option.some.injEq] at h;subst h;have hn : y.2.names.Nodup:=nodup_iff hnd;have htm:=nmTm_spec (σ:=σ) (S:=S) (w:=w) (ρ:=y.2) (a:=a) (l:=keepT keep fr.tm) (r:=⟨fr.lent.map fun p=>(p.1,p.1),[]⟩)
  rw [hx] at htm;obtain ⟨t1,t2,t3⟩:=htm;have hro:=nmRows_spec (ρ:=y.2) hsim.rows (l:=x.2.ren) (r:=x.2);rw [hy] at hro;obtain ⟨r1,r2,r3⟩:=hro;have hkeys0 : Ren.keys ⟨fr.lent.map fun p=>(p.1,p.1),[]⟩:=by
   intro id k k' h1 h2;simp only [List.mem_map,Prod.mk.injEq] at h1 h2;obtain ⟨_,_,e1,e2⟩:=h1;obtain ⟨_,_,e3,e4⟩:=h2;rw [← e2,← e4,e1,e3]
  have hkeys : y.2.keys:=r2 (t2 hkeys0);have hxl : ∀ p ∈ x.2.ren,p ∈ y.2.ren:=r1.1;have hrows1:=r3 hn hxl (Ren.le_refl _) (by simpa using hsc)
  have hmore:=nmArrs_spec (ρ:=y.2) hsim.rows hn (l:=y.2.ren.drop x.2.ren.length) (fun p hp => List.mem_of_mem_drop hp)
  have parts : ∀ k row,lk k (y.1 ++ nmArrs fr.rows (y.2.ren.drop x.2.ren.length) ++ y.2.virt.map (fun p=>(p.1,Row.arr p.2 []))) = some row →
    RowOk P Γ (newIds σ y.2) S w k row∧((k ∈ y.2.virt.map (·.1)) ∨ ∃ id r0,(id,k) ∈ y.2.ren∧lk id fr.rows = some r0):=by
   intro k row hk;have hm:=lk_mem hk;simp only [List.mem_append] at hm;rcases hm with (hm | hm) | hm
   ·obtain ⟨q1,id,r0,q2,q3⟩:=hrows1 _ hm
    exact ⟨q1,.inr ⟨id,r0,hxl _ q2,q3⟩⟩
   ·obtain ⟨q1,id,r0,q2,q3⟩:=hmore _ hm
    exact ⟨q1,.inr ⟨id,r0,List.mem_of_mem_drop q2,q3⟩⟩
   ·obtain ⟨p,hp,hpe⟩:=List.mem_map.1 hm
    cases hpe;have hv : p.1 ∈ y.2.virt.map (·.1):=List.mem_map_of_mem hp;exact ⟨.inl ⟨newIds_virt hn hv,rfl⟩,.inl hv⟩
  have has : ∀ k row b,lk k (y.1 ++ nmArrs fr.rows (y.2.ren.drop x.2.ren.length) ++ y.2.virt.map (fun p=>(p.1,Row.arr p.2 []))) = some row → Loc.has (newIds σ y.2 k) b →
    ∃ id r0,(id,k) ∈ y.2.ren∧lk id fr.rows = some r0∧Loc.has (σ id) b:=by
   intro k row b hk hb;rcases (parts k row hk).2 with hv | ⟨id,r0,h1,h2⟩
   ·obtain ⟨l,hl,hbb⟩:=hb
    rw [newIds_virt hn hv] at hl;cases hl; cases hbb
   ·rw [newIds_ren hn h1] at hb
    exact ⟨id,r0,h1,h2,hb⟩
  simp only [lk_sort];refine ⟨newIds σ y.2,⟨⟨fun t v hv => ?_,hsim.tmps.2⟩,⟨fun k row hk => (parts k row hk).1,fun k row b hk hb => ?_,fun k k' row row' b hk hk' hb hb' => ?_,hsim.rows.old⟩,hsim.size,hsim.marks,hsim.fix,hsim.own,fun p hp => ?_⟩,fun id hid => ?_,hlent⟩
  ·exact t3 hn r1 (fun p hp => hsim.tmps.1 p.1 p.2 (keepT_mem hp)) (t,v) (lk_mem hv)
  ·obtain ⟨id,r0,h1,h2,h3⟩:=has k row b hk hb
   exact hsim.rows.apart id r0 b h2 h3
  ·obtain ⟨id,r0,h1,h2,h3⟩:=has k row b hk hb
   obtain ⟨id',r0',h1',h2',h3'⟩:=has k' row' b hk' hb';have:=hsim.rows.inj id id' r0 r0' b h2 h2' h3 h3';subst this;exact hkeys id k k' h1 h1'
  ·have hm : (p.1,p.1) ∈ y.2.ren:=by
    refine r1.1 _ (t1.1 _ ?_);have hm1 : p.1 ∈ fr.lent.map (·.1):=by rw [hlent,hLE]; exact List.mem_map_of_mem hp
    obtain ⟨q,hq,hqe⟩:=List.mem_map.1 hm1;simp only [List.mem_map];exact ⟨q,hq,by rw [hqe]⟩
   rw [newIds_ren hn hm];exact hsim.lent p hp
  ·cases hq : newIds σ y.2 id with
   | none => rfl
   | some l =>
    have hm:=newIds_some hq;have:=List.all_eq_true.1 hlt id hm;simp at this;simp only [nextBase] at hid this;omega
 ·cases h
def exOf : AEx → Exit
 | .normal => .normal
 | .exit id => .exit id
 | .ret => .ret
def CPost (P : Program) (Γ : Gam) (Own : Nat → Prop) (LL : List (Nat × Loc)) (FX : Nat → Option Value) (LE : List (Nat × Option Nat)) (nt : Nat) (S0 : Nat → Prop) (w0 : World) (r : AEx × Fr) (e : Exit) (a : Act) (w : World) : Prop :=
 e = exOf r.1∧∃ σ S,Sim P Γ Own LL FX nt σ S w (fun t=>lk t r.2.tm) (fun i=>lk i r.2.rows) a∧ExtW Own S0 w0 S w∧(∀ id,r.2.next≤id → σ id = none)∧r.2.lent = LE
theorem region_sound {ro : Option Nat} {dn : Nat} {bor : Nat → List Nat} {call : CallF} {id : Nat} {ops : Array Oper} {draw : Bool} {as : List AOper} {bef : List (List Nat)} {keep : List Nat} {fr fr' : Fr} {fx : List Nat} (hfx : ∀ t v,FX t = some v → t ∈ fx) (hcall : ∀ f vs r,call f vs = some r → CallOk P f vs r.1 r.2∧Enterable P f)
  (hmix : P.follows .mixedOrders = true) (hcomp : mapO (compOper P bor ops) ops.toList = some as) (hdst : dstOk nt fx ops = true) (hdraw : draw = true → drawOk ops as bef = true) (h : runRegion call as draw bef keep fr = some fr')
  {σ : Ids} {S : Nat → Prop} {w : World} {a : Act} (hsim : Sim P Γ Own LL FX nt σ S w (fun t=>lk t fr.tm) (fun i=>lk i fr.rows) a) (hext : ExtW Own S0 w0 S w) (hfr : ∀ id,fr.next≤id → σ id = none) (hlent : fr.lent = LE) :
  (Code.region id ops draw).wpIn (FR ro) dn P (CPost P Γ Own LL FX LE nt S0 w0 (.normal,fr')) a w:=by
 unfold runRegion at h;split at h
 ·cases h
 ·rename_i tm rows hrun
  simp only [Option.some.injEq] at h;subst h;have hasz : as.length = ops.size:=by have:=(mapO_spec hcomp).1; simpa using this
  have hkeep : ∀ t x,lk t (keepT keep tm) = some x → lk t tm = some x:=fun t x hx => keepT_mem (lk_mem hx)
  cases draw with
  | false =>
   refine wpIn_region ?_;rw [List.range_eq_range'];have:=text_sound (ro:=ro) (dn:=dn) (P:=P) (Own:=Own) (LL:=LL) (nt:=nt) (S0:=S0) (w0:=w0) (bor:=bor) (ops:=ops) (call:=call) (base:=fr.next) (Q:=CPost P Γ Own LL FX LE nt S0 w0 (.normal,⟨keepT keep tm,rows,fr.lent,fr.next + siteWidth * as.length⟩)) hfx hcall hdst (tm':=tm) (rows':=rows)
    (fun σ S w a h1 h2 h3 => ⟨rfl,σ,S,h1.keep hkeep,h2,by rw [hasz]; exact h3,hlent⟩) (k:=0) (l:=ops.toList) hrun rfl hcomp (by simp) hsim hext (by simpa using hfr)
   simpa using this
  | true =>
   refine wpIn_region_any hmix ?_;obtain ⟨es,e1,e2,_,e4,e5,e6⟩:=runOps_draw hrun;have hfalse : ∀ {β : Type} (l : List (List (Nat × Option β))) (X : Nat → Option β) (k : Nat),foldG (fun i=>(Array.replicate ops.size false).getD i false) X k l = X:=by
    intro β l;induction l with
    | nil => intro X k; rfl
    | cons q l ih =>
     intro X k;simp only [foldG];have : (Array.replicate ops.size false).getD k false = false:=by
      by_cases hk : k < ops.size <;> simp [hk]
     rw [if_neg (by rw [this]; simp)]
     exact ih X (k + 1)
   refine draw_sound (Γ:=Γ) (ro:=ro) (dn:=dn) (P:=P) (Own:=Own) (LL:=LL) (nt:=nt) (S0:=S0) (w0:=w0) (bor:=bor) (as:=as) (es:=es) (call:=call) (base:=fr.next) (bef:=bef) (T0:=fun t=>lk t fr.tm) (R0:=fun i=>lk i fr.rows) hfx hcall hdst hcomp (hdraw rfl) e1 ?_ ?_ ?_
    ops.size (Array.replicate ops.size false) σ S _ a (by simp) ?_ ?_ ?_ ?_ ?_ ?_
   ·intro j o e ho he
    have:=e2 j o e ho he;rw [Nat.zero_add] at this;have h1 : foldG (fun _=>true) (fun t=>lk t fr.tm) 0 ((zipT as es).take j) = foldG (fun i=>decide (i < j)) (fun t=>lk t fr.tm) 0 (zipT as es):=funext fun t=>by
     rw [foldG_take (X:=fun t=>lk t fr.tm)]; simp
    have h2 : foldG (fun _=>true) (fun i=>lk i fr.rows) 0 ((es.map (·.wr)).take j) = foldG (fun i=>decide (i < j)) (fun i=>lk i fr.rows) 0 (es.map (·.wr)):=funext fun t=>by
     rw [foldG_take (X:=fun i=>lk i fr.rows)]; simp
    rw [← h1,← h2]; exact this
   ·intro j j' e e' hjj h1 h2
    have:=e4 j j' e e' hjj h1 h2;rcases this with h | h
    ·exact .inl (by simpa using h)
    ·exact .inr (.inl (by simpa using h))
   ·intro σ' S' w' a' h1 h2 h3
    exact ⟨rfl,σ',S',(h1.congr (T':=fun t=>lk t tm) (R':=fun i=>lk i rows) e5 e6).keep hkeep,h2,by rw [hasz]; exact h3,hlent⟩
   ·simp [List.count_replicate]
   ·intro i hi
    exfalso;have : (Array.replicate ops.size false).getD i false = false:=by
     by_cases hk : i < ops.size <;> simp [hk]
    rw [this] at hi; cases hi
   ·rw [hfalse,hfalse]
    have hdw : ∀ b : Nat,({ w with drawn:=w.drawn + 1 } : World).heap[b]? = w.heap[b]?:=fun _=>rfl
    exact ⟨⟨fun t x hx => (hsim.tmps.1 t x hx).mono (Ids.le_refl σ) (fun _ h => h) fun b _ => hdw b,fun g cs hg => (hsim.tmps.2 g cs hg).mono (fun _ h => h) fun b _ => hdw b⟩,
     ⟨fun id r hr => (hsim.rows.ok id r hr).mono (Ids.le_refl σ) (fun _ h => h) (fun b _ => hdw b) (Nat.le_refl _) fun b _ => hdw b,hsim.rows.apart,hsim.rows.inj,hsim.rows.old⟩,hsim.size,hsim.marks,hsim.fix,hsim.own,hsim.lent⟩
   ·exact hext.trans ⟨fun _ h => h,fun _ _ => rfl,fun _ _ => rfl,⟨rfl,rfl,rfl,Nat.le_refl _⟩,fun _ h => .inl h⟩
   ·intro i _ _ id h1 _
    exact hfr id (by omega)
   ·intro id h1
    exact hfr id (by omega)
theorem regionX_sound {ro : Option Nat} {dn : Nat} {bor : Nat → List Nat} {call : CallF} {id : Nat} {ops : Array Oper} {as : List AOper} {bef : List (List Nat)} {keep : List Nat} {fr fr' : Fr} {fx : List Nat} (hfx : ∀ t v,FX t = some v → t ∈ fx) (hcall : ∀ f vs r,call f vs = some r → CallOk P f vs r.1 r.2∧Enterable P f)
  (hmix : P.follows .mixedOrders = true) (hcomp : mapO (compOper P bor ops) ops.toList = some as) (hdst : dstOk nt fx ops = true) (hdraw : drawOk ops as bef = true) (h : runRegionX call as bef keep fr = some fr')
  {σ : Ids} {S : Nat → Prop} {w : World} {a : Act} (hsim : Sim P Γ Own LL FX nt σ S w (fun t=>lk t fr.tm) (fun i=>lk i fr.rows) a) (hext : ExtW Own S0 w0 S w) (hfr : ∀ id,fr.next≤id → σ id = none) (hlent : fr.lent = LE) :
  (Code.region id ops true).wpIn (FR ro) dn P (CPost P Γ Own LL FX LE nt S0 w0 (.normal,fr')) a w:=by
 unfold runRegionX at h;split at h
 ·cases h
 rename_i tm rows hrun;simp only [Option.some.injEq] at h;subst h;have hasz : as.length = ops.size:=by have:=(mapO_spec hcomp).1; simpa using this
 have hkeep : ∀ t x,lk t (keepT keep tm) = some x → lk t tm = some x:=fun t x hx => keepT_mem (lk_mem hx)
 refine wpIn_region_any hmix ?_;obtain ⟨es,e1,e2,_,e4,e5,e6⟩:=runOpsX_draw hrun;have hfalse : ∀ {β : Type} (l : List (List (Nat × Option β))) (X : Nat → Option β) (k : Nat),foldG (fun i=>(Array.replicate ops.size false).getD i false) X k l = X:=by
  intro β l;induction l with
  | nil => intro X k; rfl
  | cons q l ih =>
   intro X k;simp only [foldG];have : (Array.replicate ops.size false).getD k false = false:=by
    by_cases hk : k < ops.size <;> simp [hk]
   rw [if_neg (by rw [this]; simp)]
   exact ih X (k + 1)
 refine draw_sound (Γ:=Γ) (ro:=ro) (dn:=dn) (P:=P) (Own:=Own) (LL:=LL) (nt:=nt) (S0:=S0) (w0:=w0) (bor:=bor) (as:=as) (es:=es) (call:=call) (base:=fr.next) (bef:=bef) (T0:=fun t=>lk t fr.tm) (R0:=fun i=>lk i fr.rows) hfx hcall hdst hcomp hdraw e1 ?_ ?_ ?_
  ops.size (Array.replicate ops.size false) σ S _ a (by simp) ?_ ?_ ?_ ?_ ?_ ?_
 ·intro j o e ho he
  have:=e2 j o e ho he;rw [Nat.zero_add] at this;have h1 : foldG (fun _=>true) (fun t=>lk t fr.tm) 0 ((zipT as es).take j) = foldG (fun i=>decide (i < j)) (fun t=>lk t fr.tm) 0 (zipT as es):=funext fun t=>by
   rw [foldG_take (X:=fun t=>lk t fr.tm)]; simp
  have h2 : foldG (fun _=>true) (fun i=>lk i fr.rows) 0 ((es.map (·.wr)).take j) = foldG (fun i=>decide (i < j)) (fun i=>lk i fr.rows) 0 (es.map (·.wr)):=funext fun t=>by
   rw [foldG_take (X:=fun i=>lk i fr.rows)]; simp
  rw [← h1,← h2]; exact this
 ·intro j j' e e' hjj h1 h2
  have hj1 : j < as.length:=by have:=(List.getElem?_eq_some_iff.1 h1).1; omega
  have hj2 : j' < as.length:=by have:=(List.getElem?_eq_some_iff.1 h2).1; omega
  have:=e4 j j' as[j] as[j'] e e' hjj (List.getElem?_eq_getElem hj1) (List.getElem?_eq_getElem hj2) h1 h2;rcases this with h | h | ⟨q1,q2,q3,_,q4⟩
  ·exact .inl (by simpa using h)
  ·exact .inr (.inl (by simpa using h))
  ·refine .inr (.inr ⟨q2,fun o ho => ?_,fun j2 e2' hj hne he2 => ?_⟩)
   ·rw [List.getElem?_eq_getElem hj1] at ho
    cases ho;rw [Nat.zero_add] at q3;have g1 : foldG (fun _=>true) (fun t=>lk t fr.tm) 0 ((zipT as es).take j) = foldG (fun i=>decide (i < j)) (fun t=>lk t fr.tm) 0 (zipT as es):=funext fun t=>by
     rw [foldG_take (X:=fun t=>lk t fr.tm)]; simp
    have g2 : foldG (fun _=>true) (fun i=>lk i fr.rows) 0 ((es.map (·.wr)).take j) = foldG (fun i=>decide (i < j)) (fun i=>lk i fr.rows) 0 (es.map (·.wr)):=funext fun t=>by
     rw [foldG_take (X:=fun i=>lk i fr.rows)]; simp
    rw [← g1,← g2]; exact q3
   ·have hj3 : j2 < as.length:=by have:=(List.getElem?_eq_some_iff.1 he2).1; omega
    rcases e4 j j2 as[j] as[j2] e e2' hj (List.getElem?_eq_getElem hj1) (List.getElem?_eq_getElem hj3) h1 he2 with h | h | ⟨r1,_,_,_,r4⟩
    ·exact .inl (by simpa using h)
    ·exact .inr (by simpa using h)
    ·exfalso
     rcases Nat.lt_or_gt_of_ne hne with hlt | hlt
     ·have:=q4 j2 _ hlt (List.getElem?_eq_getElem hj3)
      rw [r1] at this; cases this
     ·have:=r4 j' _ hlt (List.getElem?_eq_getElem hj2)
      rw [q1] at this; cases this
 ·intro σ' S' w' a' h1 h2 h3
  exact ⟨rfl,σ',S',(h1.congr (T':=fun t=>lk t tm) (R':=fun i=>lk i rows) e5 e6).keep hkeep,h2,by rw [hasz]; exact h3,hlent⟩
 ·simp [List.count_replicate]
 ·intro i hi
  exfalso;have : (Array.replicate ops.size false).getD i false = false:=by
   by_cases hk : i < ops.size <;> simp [hk]
  rw [this] at hi; cases hi
 ·rw [hfalse,hfalse]
  have hdw : ∀ b : Nat,({ w with drawn:=w.drawn + 1 } : World).heap[b]? = w.heap[b]?:=fun _=>rfl
  exact ⟨⟨fun t x hx => (hsim.tmps.1 t x hx).mono (Ids.le_refl σ) (fun _ h => h) fun b _ => hdw b,fun g cs hg => (hsim.tmps.2 g cs hg).mono (fun _ h => h) fun b _ => hdw b⟩,
   ⟨fun id r hr => (hsim.rows.ok id r hr).mono (Ids.le_refl σ) (fun _ h => h) (fun b _ => hdw b) (Nat.le_refl _) fun b _ => hdw b,hsim.rows.apart,hsim.rows.inj,hsim.rows.old⟩,hsim.size,hsim.marks,hsim.fix,hsim.own,hsim.lent⟩
 ·exact hext.trans ⟨fun _ h => h,fun _ _ => rfl,fun _ _ => rfl,⟨rfl,rfl,rfl,Nat.le_refl _⟩,fun _ h => .inl h⟩
 ·intro i _ _ id h1 _
  exact hfr id (by omega)
 ·intro id h1
  exact hfr id (by omega)
end
end Go.Abs
