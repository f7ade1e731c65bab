/-
 Steps of operations: maps, copies, loops over maps.
-/
import Derived.Test.YtlcikiobkmajbaaOps
import Derived.Laws.Strings
import Derived.Laws.IdiomStrings
set_option linter.all false
namespace Go.Abs
section
variable {P : Program} {Γ : Gam} {Own : Nat → Prop} {σ : Ids} {S : Nat → Prop} {w : World} {R : Nat → Option Row} {s : Nat} {T : Nat → Option AV} {a : Act} {o : Oper} {e : Eff}
theorem equal_nil (d : Nat) {t el : TypeId} {b : Addr} {l c : Nat} (ht : P.underlying t = some (.slice el)) : (Op.equalIn (d + 1) t (.slice (some b) l c) (.slice none 0 0)).run P w = .ok false w:=by
 simp [Op.equalIn,run_underlying ht]
theorem equal_nils (d : Nat) {t el : TypeId} (ht : P.underlying t = some (.slice el)) : (Op.equalIn (d + 1) t (.slice none 0 0) (.slice none 0 0)).run P w = .ok true w:=by
 simp [Op.equalIn,run_underlying ht]
theorem isNil_sound {op : BinOp} {t el ty : TypeId} {x : Operand} {ax : AOpd} (hT : TmpsOk σ S w T a) (hR : RowsOk P Γ Own σ S w R) (ho : o.op = .binOp op t x (.const (.slice none 0 0)) ty)
  (hop : op = .eql ∨ op = .neq) (ht : P.underlying t = some (.slice el)) (hx : opd P (some t) x = some ax) (call : CallF) (h : evalOp call s (getO T) R (.isNil (isNeq op) ax) = some e) :
  ∃ v w',OpRuns P a o w v w'∧Step P Γ Own σ S w R s e v w':=by
 have hcases : (∃ b l c,a.eval x = .slice (some b) l c∧e = .pure (.bool (isNeq op))) ∨ (a.eval x = .slice none 0 0∧e = .pure (.bool (!isNeq op))):=by
  simp only [evalOp] at h;split at h
  ·cases h
  ·rename_i id off n hg
   simp only [Option.some.injEq] at h; subst h
   have hv:=Yp hT hx hg;generalize a.eval x = v at hv;cases hv with
   | imm hv => cases hv
   | slice id off len cap b sz n' c ad hσ q1 q2 q3 q4 => exact .inl ⟨_,_,_,rfl,rfl⟩
  ·rename_i sz y ys hg
   simp only [Option.some.injEq] at h; subst h
   have hv:=Yp hT hx hg;generalize a.eval x = v at hv;cases hv with
   | imm hv =>
    cases hv with
    | list b o' sz cap es f hb' hcap he hc' hr' => exact .inl ⟨_,_,_,rfl,rfl⟩
  ·rename_i hg
   simp only [Option.some.injEq] at h; subst h
   have hv:=Yp hT hx hg;generalize a.eval x = v at hv;cases hv with
   | imm hv =>
    cases hv with
    | const => exact .inr ⟨rfl,rfl⟩
  ·cases h
 rcases hcases with ⟨b,l,c,hv,rfl⟩ | ⟨hv,rfl⟩
 ·refine fin_pure hR (sem:=do eqGuard op t x (.const (.slice none 0 0)) (a.eval x) (.slice none 0 0); binOp op t (a.eval x) (.slice none 0 0)) (by simp [execOp,ho,Act.eval]) (u:=.bool (isNeq op)) ?_ (.imm (.bool _))
  have h1 : (eqGuard op t x (.const (.slice none 0 0)) (a.eval x) (.slice none 0 0)).run P w = .ok () w:=by
   rw [hv];unfold eqGuard;rcases hop with rfl | rfl <;> simp
  have h2 : (Op.equal t (.slice (some b) l c) (.slice none 0 0)).run P w = .ok false w:=equal_nil 9999 ht;rw [Sem.run_bind,h1,Result.andThen_ok,hv];rcases hop with rfl | rfl <;> simp [binOp,isNeq,h2]
 ·refine fin_pure hR (sem:=do eqGuard op t x (.const (.slice none 0 0)) (a.eval x) (.slice none 0 0); binOp op t (a.eval x) (.slice none 0 0)) (by simp [execOp,ho,Act.eval]) (u:=.bool (!isNeq op)) ?_ (.imm (.bool _))
  have h1 : (eqGuard op t x (.const (.slice none 0 0)) (a.eval x) (.slice none 0 0)).run P w = .ok () w:=by
   rw [hv];unfold eqGuard;rcases hop with rfl | rfl <;> simp
  have h2 : (Op.equal t (.slice none 0 0) (.slice none 0 0)).run P w = .ok true w:=equal_nils 9999 ht;rw [Sem.run_bind,h1,Result.andThen_ok,hv];rcases hop with rfl | rfl <;> simp [binOp,isNeq,h2]
theorem slice3_sound {t el : TypeId} {x hi mx : Operand} {lo : Option Operand} {ax ahi amx : AOpd} {alo : Option AOpd} {n : Nat} (hT : TmpsOk σ S w T a) (hR : RowsOk P Γ Own σ S w R)
  (ho : o.op = .slice t x lo (some hi) (some mx)) (ht : P.underlying t = some (.slice el)) (hn : szOf P el = some n) (hx : opd P (some t) x = some ax)
  (hlo : optOpd P lo = some alo) (hhi : opd P none hi = some ahi) (hmx : opd P none mx = some amx) (call : CallF) (h : evalOp call s (getO T) R (.slice3 n ax alo ahi amx) = some e) :
  ∃ v w',OpRuns P a o w v w'∧Step P Γ Own σ S w R s e v w':=by
 simp only [evalOp] at h;split at h
 ·rename_i sz' es kl l kh hh km m hgx hgl hgh hgm
  split at h
  ·rename_i hc
   obtain ⟨rfl,h0,h1,h2,rfl⟩:=hc;simp only [Option.some.injEq] at h; subst h
   have hv:=Yp hT hx hgx;have ehi:=(Yp hT hhi hgh).int_inv;have emx:=(Yp hT hmx hgm).int_inv;have hlo' : lo.map a.eval = none∧l = 0 ∨ ∃ k,lo.map a.eval = some (.int k l):=by
    cases lo with
    | none =>
     simp [optOpd] at hlo;subst hlo;simp at hgl;exact .inl ⟨rfl,hgl.2.symm⟩
    | some y =>
     simp only [optOpd] at hlo;split at hlo
     ·rename_i ay hy
      simp at hlo;subst hlo;exact .inr ⟨kl,by simp [(Yp hT hy hgl).int_inv]⟩
     ·cases hlo
   simp only [szOf,Option.map_eq_some_iff] at hn;obtain ⟨i,hi',rfl⟩:=hn;have hrun : ∀ (ad : Option Addr) (cap : Nat),es.length≤cap → (Instr.sliceAt t (.slice ad es.length cap) (lo.map a.eval) (some (.int kh m)) (some (.int km m))).run P w =
     .ok (.slice (if m.toNat = l.toNat then ad else ad.map (·.add (l.toNat * i.size))) (m.toNat - l.toNat) (m.toNat - l.toNat)) w:=by
    intro ad cap hcap;have hb : (Instr.sliceBounds true es.length cap (lo.map a.eval) (some (.int kh m)) (some (.int km m))).run P w = .ok (l.toNat,m.toNat,m.toNat) w:=by
     unfold Instr.sliceBounds;have h0' : 0≤m:=by omega
     have hmc : m≤(cap : Int):=by omega
     have hmm : m≤(m.toNat : Int):=by omega
     have hlm : l≤(m.toNat : Int):=by omega
     rcases hlo' with ⟨e1,rfl⟩ | ⟨k,e1⟩ <;> rw [e1]
     ·simp [run_sliceBound h0' hmc,run_sliceBound h0' hmm]
     ·simp [run_sliceBound h0' hmc,run_sliceBound h0' hmm,run_sliceBound h0 hlm]
    unfold Instr.sliceAt;rw [Sem.run_bind,run_underlying ht,Result.andThen_ok];simp only [Instr.slice];rw [Sem.run_bind,run_underlying ht,Result.andThen_ok];simp only [];rw [Sem.run_bind,hb,Result.andThen_ok];simp [sizeOf,typeInfo,hi']
   have e1 : (m - l).toNat = m.toNat - l.toNat:=by omega
   have fin : ∀ {u : Value} {y : AV},(Instr.sliceAt t (a.eval x) (lo.map a.eval) (some (.int kh m)) (some (.int km m))).run P w = .ok u w → RelI S w u y → ∃ v w',OpRuns P a o w v w'∧Step P Γ Own σ S w R s (.pure y) v w':=by
    intro u y g1 g2;exact ⟨u,w,.inl (by simp [execOp,ho,ehi,emx,g1]),Step.pure hR (.imm g2)⟩
   rw [e1];generalize hax : a.eval x = va at hv fin;cases hv with
   | imm hv =>
    cases hv with
    | list0 ad cap sz =>
     have e2 : l = 0:=by simp at h2; omega
     have e3 : m = 0:=by simp at h2; omega
     subst e2 e3;have:=hrun ad cap (by simp)
     exact fin this (by simpa using RelI.clip0 _ _)
    | list b o' sz cap _ f hb' hcap he hc' hr' =>
     have:=hrun (some ⟨b,o',none⟩) cap hcap;refine fin this ?_;by_cases hlh : m.toNat = l.toNat
     ·rw [hlh]; simp only [Nat.sub_self,List.take_zero]; exact .clip0 _ _
     ·simp only [hlh,if_false,Option.map_some,Addr.add_lit]
      have hlen : ((es.drop l.toNat).take (m.toNat - l.toNat)).length = m.toNat - l.toNat:=by simp; omega
      have key : RelI S w (.slice (some ⟨b,o' + l.toNat * i.size,none⟩) ((es.drop l.toNat).take (m.toNat - l.toNat)).length ((es.drop l.toNat).take (m.toNat - l.toNat)).length) (.clip i.size ((es.drop l.toNat).take (m.toNat - l.toNat))):=by
       refine .clip b _ i.size _ (fun j=>f (l.toNat * i.size + j)) hb' (fun e hm => he e (List.mem_of_mem_drop (List.mem_of_mem_take hm))) (fun j hj => ?_) (fun j c hc => ?_)
       ·rw [Nat.add_assoc]
        refine hc' _ ?_;rw [hlen] at hj;have : l.toNat * i.size + (m.toNat - l.toNat) * i.size≤es.length * i.size:=by rw [← Nat.add_mul]; exact Nat.mul_le_mul_right _ (by omega)
        omega
       ·rw [flat_take (fun e hm => he e (List.mem_of_mem_drop hm)),flat_drop he] at hc
        have:=List.getElem?_take (l:=List.drop (l.toNat * i.size) (flat es)) (i:=(m.toNat - l.toNat) * i.size) (j:=j);rw [this] at hc;split at hc
        ·rw [List.getElem?_drop] at hc
         exact hr' _ c hc
        ·cases hc
      rw [hlen] at key;exact key
  ·cases h
 ·cases h
theorem zeroCells_made (z : Array Value) (n : Nat) : Builtin.zeroCells z n = madeCells z (n * z.size):=rfl
theorem clear_sound {t el : TypeId} {n : Nat} {z : AV} {x : Operand} {ax : AOpd} {t1 : Option TypeId} (hT : TmpsOk σ S w T a) (hR : RowsOk P Γ Own σ S w R)
  (ho : o.op = .call ⟨.builtin .clear,#[x],#[t]⟩) (ht : P.underlying t = some (.slice el)) (hn : szOf P el = some n) (hz : zeroOf P el = some z) (h0 : 0 < n) (hzl : z.cells.length = n) (hzs : z.cells.all AV.scalar = true)
  (hx : opd P t1 x = some ax) (call : CallF) (h : evalOp call s (getO T) R (.clear n z ax) = some e) : ∃ v w',OpRuns P a o w v w'∧Step P Γ Own σ S w R s e v w':=by
 have hzs' : ∀ c ∈ z.cells,c.scalar = true:=by simpa using hzs
 have hexec : ∀ {v : Value} {w' : World},(Builtin.clear_ #[t] o.type #[a.eval x]).run P w = .ok v w' → OpRuns P a o w v w':=by
  intro v w' hr;refine .inl ?_;simp only [execOp,ho,resolve,invoke,builtin,pure_bind,Sem.run_bind,List.map_toArray,List.map_cons,List.map_nil,hr,Result.andThen_ok,Sem.run_pure]
 have hund : ∀ {σ' : Ids} {S' : Nat → Prop} {w' : World},RelV σ' S' w' (.tuple #[]) (.tuple []):=.tuple #[] [] rfl (by simp)
 simp only [evalOp] at h;split at h
 ·rename_i id off len hg
  have hv:=Yp hT hx hg;generalize hax : a.eval x = vx at hv hexec;split at h
  ·rename_i sz' es hr
   split at h
   ·rename_i hl0
    subst hl0;simp only [Option.some.injEq] at h; subst h
    have hrun : (Builtin.clear_ #[t] o.type #[vx]).run P w = .ok (.tuple #[]) w:=by
     cases hv with
     | imm hv => cases hv
     | sliceV id ad hσ => cases ad <;> simp [Builtin.clear_,run_underlying ht]
     | slice id off len cap b sz n' c ad hσ q1 q2 q3 q4 => simp [Builtin.clear_,run_underlying ht]
    exact ⟨_,_,hexec hrun,Step.read hR hund⟩
   ·rename_i hl0
    split at h
    ·rename_i hc
     obtain ⟨rfl,hle⟩:=hc;simp only [Option.some.injEq] at h; subst h
     cases hv with
     | imm hv => cases hv
     | sliceV id ad hσ => exact absurd rfl hl0
     | slice id off len cap b sz n' c ad hσ q1 q2 q3 q4 =>
      rcases hR.ok id _ hr with ⟨hk,_⟩ | ⟨b',c',cur,te,hk,hh,hs,hn',hmax,hp',hels,hf⟩
      ·rw [hk] at hσ; cases hσ
      ·have q:=hk.symm.trans hσ
       simp only [Option.some.injEq,Loc.row.injEq] at q;obtain ⟨rfl,rfl,rfl,rfl⟩:=q;have had:=q4 (by omega)
       subst had;simp only [szOf,Option.map_eq_some_iff] at hn;obtain ⟨i,hi,rfl⟩:=hn;unfold zeroOf at hz;rw [hi] at hz;simp only at hz;split at hz
       ·rename_i zv hzv
        split at hz
        ·have hzrel : RelI S w zv z:=ofVal_rel hz
         have hzc : CellsOk (RelI S w) zv.cells z.cells:=hzrel.cells (by rintro rfl; simp [AV.cells,AV.scalar] at hzs') (by rintro u rfl; simpa [AV.cells,AV.scalar] using hzs')
         have hzok:=zeros_ok (n:=len) hzc hzl h0;have hzsz : zv.cells.size = i.size:=by rw [hzc.1,hzl]
         have hlenz : (Builtin.zeroCells zv.cells len).toList.length = len * i.size:=by simp [size_zeroCells,hzsz]
         have hfit : off * i.size + (Builtin.zeroCells zv.cells len).toList.length≤cur.size:=by
          rw [hlenz,← Nat.add_mul];exact Nat.le_trans (Nat.mul_le_mul_right _ (by omega)) hs
         have hmade : Builtin.zeroCells zv.cells len = madeCells zv.cells (len * i.size):=by rw [zeroCells_made,hzsz]
         have hone : ∀ v ∈ (Builtin.zeroCells zv.cells len).toList,v.oneCell' = true:=by
          intro v hv;obtain ⟨j,hj,rfl⟩:=List.getElem_of_mem hv;rw [hlenz] at hj;have hjf : j < (flat (List.replicate len z)).length:=by rw [← hzok.1,size_madeCells]; exact hj
          have hjm : j < (madeCells zv.cells (len * i.size)).size:=by rw [size_madeCells]; exact hj
          have hrel:=hzok.2 j _ _ (Array.getElem?_eq_getElem hjm) (List.getElem?_eq_getElem hjf);have : (Builtin.zeroCells zv.cells len).toList[j]'(by rw [hlenz]; exact hj) = (madeCells zv.cells (len * i.size))[j]:=by simp [hmade]
          rw [this];refine hrel.oneCell ?_;have hm:=List.getElem_mem hjf;obtain ⟨y,hy,hyc⟩:=List.mem_flatMap.1 hm;rw [(List.mem_replicate.1 hy).2] at hyc;exact hzs' _ hyc
         have hst:=run_storeCells_at P b' (off * i.size) te _ 0 cur w hh (by simpa using hfit) hone
         simp only [Nat.add_zero] at hst;have hrun : (Builtin.clear_ #[t] o.type #[.slice (some ⟨b',off * i.size,none⟩) len cap]).run P w = .ok (.tuple #[]) (w.setRow b' (cur.toList.take (off * i.size) ++ (Builtin.zeroCells zv.cells len).toList ++ cur.toList.drop (off * i.size + (Builtin.zeroCells zv.cells len).toList.length)).toArray):=by
          have hzr : (zeroValue el).run P w = .ok zv w:=by simp [zeroValue,typeInfo,hi,hzv]
          cases len with
          | zero => exact absurd rfl hl0
          | succ len => simp [Builtin.clear_,run_underlying ht,hzr,hst]
         refine ⟨_,_,hexec hrun,?_⟩;have hlen2 : (es.take off ++ List.replicate len z ++ es.drop (off + len)).length = es.length:=by simp; omega
         have hze : ∀ y ∈ List.replicate len z,Elem i.size y:=fun y hy => by rw [(List.mem_replicate.1 hy).2]; exact ⟨hzl,hzs'⟩
         have hte : ∀ y ∈ es.take off,Elem i.size y:=fun y hy => hels y (List.mem_of_mem_take hy)
         have hde : ∀ y ∈ es.drop (off + len),Elem i.size y:=fun y hy => hels y (List.mem_of_mem_drop hy)
         have hrow : ∀ k : Nat,(flat (es.take off ++ List.replicate len z ++ es.drop (off + len)))[k]? = if k < off * i.size then (flat es)[k]? else if k < off * i.size + len * i.size then (flat (List.replicate len z))[k - off * i.size]? else (flat es)[k]?:=by
          intro k;have l1 : (flat (es.take off)).length = off * i.size:=by rw [flat_length hte]; simp; congr 1; omega
          have l2 : (flat (List.replicate len z)).length = len * i.size:=by rw [flat_length hze]; simp
          rw [flat_append,flat_append];split
          ·rename_i hk1
           rw [List.getElem?_append_left (by simp; omega),List.getElem?_append_left (by omega),flat_take hels,List.getElem?_take,if_pos hk1]
          ·rename_i hk1
           split
           ·rename_i hk2
            rw [List.getElem?_append_left (by simp; omega),List.getElem?_append_right (by omega),l1]
           ·rename_i hk2
            rw [List.getElem?_append_right (by simp; omega),flat_drop hels,List.getElem?_drop]
            congr 1
            simp only [List.length_append,l1,l2];rw [Nat.add_mul]; omega
         obtain ⟨g1,g2⟩:=hR.turn (w':=w.setRow b' (cur.toList.take (off * i.size) ++ (Builtin.zeroCells zv.cells len).toList ++ cur.toList.drop (off * i.size + (Builtin.zeroCells zv.cells len).toList.length)).toArray)
          (row:=.arr i.size (es.take off ++ List.replicate len z ++ es.drop (off + len))) hr (has_row hk) (fun b hb => setRow_other w b' b _ hb) (Same.setRow ..) (fun hkeep=>by
           refine .inr ⟨b',c',_,te,by rw [hlen2]; exact hk,setRow_heap w b' cur _ te _ hh,?_,by rw [hlen2]; exact hn',hmax,hp',fun y hy => ?_,fun k y hy => ?_⟩
           ·have : off * i.size + (Builtin.zeroCells zv.cells len).toList.length≤cur.size:=hfit
            simp only [List.size_toArray,List.length_append,List.length_take,List.length_drop,Array.length_toList] at this ⊢;omega
           ·simp only [List.mem_append] at hy
            rcases hy with (hy | hy) | hy
            ·exact hte y hy
            ·exact hze y hy
            ·exact hde y hy
           ·rw [hrow k] at hy
            simp only [List.getElem?_toArray];rw [getElem?_spliced _ _ _ _ (by simpa using hfit)]
            split at hy
            ·rename_i hk1
             rw [if_pos hk1];obtain ⟨v',hv',hrel⟩:=hf k y hy;exact ⟨v',by rw [Array.getElem?_toList]; exact hv',hrel.mono (fun _ h => h) hkeep⟩
            ·rename_i hk1
             rw [if_neg hk1];split at hy
             ·rename_i hk2
              rw [if_pos (by rw [hlenz]; omega)]
              have hjm : k - off * i.size < (madeCells zv.cells (len * i.size)).size:=by rw [size_madeCells]; omega
              refine ⟨_,?_,(hzok.2 _ _ y (Array.getElem?_eq_getElem hjm) hy).mono (fun _ h => h) hkeep⟩
              rw [Array.getElem?_toList,hmade];exact Array.getElem?_eq_getElem hjm
             ·rename_i hk2
              rw [if_neg (by rw [hlenz]; omega)]
              obtain ⟨v',hv',hrel⟩:=hf k y hy;exact ⟨v',by rw [Array.getElem?_toList]; exact hv',hrel.mono (fun _ h => h) hkeep⟩)
         exact ⟨σ,S,hund,g1,g2,fun _ _ => rfl⟩
        ·cases hz
       ·cases hz
    ·cases h
  ·cases h
 ·cases h
end
end Go.Abs
namespace Go.Abs
section
variable {P : Program} {Γ : Gam} {Own : Nat → Prop} {σ : Ids} {S : Nat → Prop} {w : World} {R : Nat → Option Row} {s : Nat} {T : Nat → Option AV} {a : Act} {o : Oper} {e : Eff}
theorem run_copy0 (t t2 ty el : TypeId) (i : TypeInfo) (ht : P.underlying t = some (.slice el)) (hi : P.info? el = some i) (d ad : Option Addr) (n c m k : Nat) (hn : Nat.min m n = 0) :
  (Builtin.copy_ #[t,t2] ty #[.slice d n c,.slice ad m k]).run P w = .ok (.int .i64 0) w:=by
 have hl : ∀ x : Addr,(loadCells x 0).run P w = .ok #[] w:=fun x=>by simp [loadCells,loadCellsFrom]
 cases d <;> cases ad <;> simp [Builtin.copy_,run_underlying ht,sizeOf,typeInfo,hi,Builtin.lenOf,Builtin.firstCells,hn,hl,storeCells,goInt]
theorem run_copy_at (t t2 ty el te : TypeId) (i : TypeInfo) (ht : P.underlying t = some (.slice el)) (hi : P.info? el = some i)
  (g o dLen dCap : Nat) (cur : Array Value) (hg : w.heap[g]? = some (.cells cur te (0,0)))
  (ad : Addr) (m c q : Nat) (news : List Value) (hq : Nat.min m dLen = q) (hl : news.length = q * i.size) (hnews : ∀ (j : Nat) u,news[j]? = some u → w.cell? (ad.add j) = some u) (h1 : ∀ u ∈ news,u.oneCell' = true)
  (hfit : o + news.length≤cur.size) :
  (Builtin.copy_ #[t,t2] ty #[.slice (some ⟨g,o,none⟩) dLen dCap,.slice (some ad) m c]).run P w =
   .ok (.int .i64 (q : Nat)) (w.setRow g (cur.toList.take o ++ news ++ cur.toList.drop (o + news.length)).toArray):=by
 have hf:=run_firstCells_some (P:=P) w i.size q ad m c news hl hnews;have hst:=run_storeCells_at P g o te news 0 cur w hg (by simpa using hfit) h1
 simp only [Nat.add_zero] at hst;simp [Builtin.copy_,run_underlying ht,sizeOf,typeInfo,hi,Builtin.lenOf,hq,hf,hst,goInt]
theorem copy_sound {t t2 el : TypeId} {n : Nat} {d x : Operand} {ad ax : AOpd} {t1 t3 : Option TypeId} (hT : TmpsOk σ S w T a) (hR : RowsOk P Γ Own σ S w R)
  (ho : o.op = .call ⟨.builtin .copy,#[d,x],#[t,t2]⟩) (ht : P.underlying t = some (.slice el)) (hn : szOf P el = some n) (h0 : 0 < n)
  (hd : opd P t1 d = some ad) (hx : opd P t3 x = some ax) (h : evCopy (getO T) R n ad ax = some e) : ∃ v w',OpRuns P a o w v w'∧Step P Γ Own σ S w R s e v w':=by
 have hexec : ∀ {v : Value} {w' : World},(Builtin.copy_ #[t,t2] o.type #[a.eval d,a.eval x]).run P w = .ok v w' → OpRuns P a o w v w':=by
  intro v w' hr;refine .inl ?_;simp only [execOp,ho,resolve,invoke,builtin,pure_bind,Sem.run_bind,List.map_toArray,List.map_cons,List.map_nil,hr,Result.andThen_ok,Sem.run_pure]
 simp only [szOf,Option.map_eq_some_iff] at hn;obtain ⟨i,hi,rfl⟩:=hn;unfold evCopy at h;split at h
 ·rename_i id off len xv hgd hgx
  have hvd:=Yp hT hd hgd;have hvx:=Yp hT hx hgx;generalize hed : a.eval d = vd at hvd hexec;generalize hex : a.eval x = vx at hvx hexec;split at h
  ·rename_i xs ids hxs
   obtain ⟨axd,capx,rfl,hxe,hsrc⟩:=elems_src hR hvx hxs;have hxf:=flat_length hxe;split at h
   ·rename_i sz' es hr
    split at h
    ·rename_i hc
     obtain ⟨rfl,hle⟩:=hc;have hvd' : ∃ base cap,vd = .slice base len cap:=by
      cases hvd with
      | imm hvd => cases hvd
      | sliceV id b hσ => exact ⟨_,_,rfl⟩
      | slice id off len cap b sz n c ad hσ => exact ⟨_,_,rfl⟩
     split at h
     ·rename_i hm
      simp only [Option.some.injEq] at h; subst h
      obtain ⟨base,cap,rfl⟩:=hvd';exact ⟨_,_,hexec (run_copy0 t t2 o.type el i ht hi base axd len cap xs.length capx hm),Step.read hR (.imm (.int .i64 0))⟩
     ·rename_i hm
      simp only [Option.some.injEq] at h; subst h
      generalize hq : min xs.length len = q at *;have hq1 : q≤xs.length:=by omega
      have hq2 : q≤len:=by omega
      have hx0 : xs ≠ []:=by rintro rfl; simp at hq; omega
      obtain ⟨b,ofs,rfl,news,n1,n2,n3⟩:=hsrc hx0;cases hvd with
      | imm hvd => cases hvd
      | sliceV id b hσ => omega
      | slice id off len cap b1 sz n' c ad hσ q1 q2 q3 q4 =>
       rcases hR.ok id _ hr with ⟨hk,_⟩ | ⟨b',c',cur,te,hk,hh,hs,hn',hmax,hp',hels,hf⟩
       ·rw [hk] at hσ; cases hσ
       ·have qq:=hk.symm.trans hσ
        simp only [Option.some.injEq,Loc.row.injEq] at qq;obtain ⟨rfl,rfl,rfl,rfl⟩:=qq;have had:=q4 (by omega)
        subst had;have hef:=flat_length hels;have hqm : q * i.size≤xs.length * i.size:=Nat.mul_le_mul_right _ hq1;have hnl : (news.take (q * i.size)).length = q * i.size:=by simp; omega
        have hn2 : ∀ (j : Nat) u,(news.take (q * i.size))[j]? = some u → w.cell? ((⟨b,ofs,none⟩ : Addr).add j) = some u:=fun j u hu => by
         rw [Addr.add_lit];rw [List.getElem?_take] at hu;split at hu
         ·exact n2 j u hu
         ·cases hu
        have hft : flat (xs.take q) = (flat xs).take (q * i.size):=flat_take hxe q;have hn3 : ∀ (j : Nat) u x,(news.take (q * i.size))[j]? = some u → (flat (xs.take q))[j]? = some x → RelI S w u x:=fun j u x hu hx => by
         rw [hft,List.getElem?_take] at hx;rw [List.getElem?_take] at hu;split at hu
         ·rename_i hj
          rw [if_pos hj] at hx;exact n3 j u x hu hx
         ·cases hu
        have hxe' : ∀ y ∈ xs.take q,Elem i.size y:=fun y hy => hxe y (List.mem_of_mem_take hy)
        have hxf' : (flat (xs.take q)).length = q * i.size:=by rw [flat_length hxe']; simp; congr 1; omega
        have hone : ∀ u ∈ news.take (q * i.size),u.oneCell' = true:=by
         intro u hu;obtain ⟨j,hj,rfl⟩:=List.getElem_of_mem hu;have hj' : j < (flat (xs.take q)).length:=by omega
         refine (hn3 j _ _ (List.getElem?_eq_getElem hj) (List.getElem?_eq_getElem hj')).oneCell ?_;have hm:=List.getElem_mem hj';unfold flat at hm;obtain ⟨y,hy,hyc⟩:=List.mem_flatMap.1 hm;exact (hxe' y hy).2 _ hyc
        have hfit : off * i.size + (news.take (q * i.size)).length≤cur.size:=by
         rw [hnl,← Nat.add_mul];exact Nat.le_trans (Nat.mul_le_mul_right _ (by omega)) hs
        have hrun:=run_copy_at (P:=P) (w:=w) t t2 o.type el te i ht hi b' (off * i.size) len cap cur hh ⟨b,ofs,none⟩ xs.length capx q (news.take (q * i.size)) hq hnl hn2 hone hfit;refine ⟨_,_,hexec hrun,?_⟩;have hlen2 : (es.take off ++ xs.take q ++ es.drop (off + q)).length = es.length:=by simp; omega
        have hte : ∀ y ∈ es.take off,Elem i.size y:=fun y hy => hels y (List.mem_of_mem_take hy)
        have hde : ∀ y ∈ es.drop (off + q),Elem i.size y:=fun y hy => hels y (List.mem_of_mem_drop hy)
        have hrow : flat (es.take off ++ xs.take q ++ es.drop (off + q)) = (flat es).take (off * i.size) ++ flat (xs.take q) ++ (flat es).drop (off * i.size + (flat (xs.take q)).length):=by
         rw [flat_append,flat_append,flat_take hels,flat_drop hels,hxf',Nat.add_mul]
        have hffit : off * i.size + (flat (xs.take q)).length≤(flat es).length:=by
         rw [hxf',hef,← Nat.add_mul]; exact Nat.mul_le_mul_right _ (by omega)
        obtain ⟨g1,g2⟩:=hR.turn (w':=w.setRow b' (cur.toList.take (off * i.size) ++ news.take (q * i.size) ++ cur.toList.drop (off * i.size + (news.take (q * i.size)).length)).toArray)
         (row:=.arr i.size (es.take off ++ xs.take q ++ es.drop (off + q))) hr (has_row hk) (fun b hb => setRow_other w b' b _ hb) (Same.setRow ..) (fun hkeep=>by
          refine .inr ⟨b',c',_,te,by rw [hlen2]; exact hk,setRow_heap w b' cur _ te _ hh,?_,by rw [hlen2]; exact hn',hmax,hp',fun y hy => ?_,fun k y hy => ?_⟩
          ·simp only [List.size_toArray,List.length_append,List.length_take,List.length_drop,Array.length_toList] at hfit hnl ⊢
           omega
          ·simp only [List.mem_append] at hy
           rcases hy with (hy | hy) | hy
           ·exact hte y hy
           ·exact hxe' y hy
           ·exact hde y hy
          ·rw [hrow,getElem?_spliced _ _ _ _ hffit] at hy
           simp only [List.getElem?_toArray];rw [getElem?_spliced _ _ _ _ (by simpa using hfit)]
           split at hy
           ·rename_i hk1
            rw [if_pos hk1];obtain ⟨v',hv',hrel⟩:=hf k y hy;exact ⟨v',by rw [Array.getElem?_toList]; exact hv',hrel.mono (fun _ h => h) hkeep⟩
           ·rename_i hk1
            rw [if_neg hk1];split at hy
            ·rename_i hk2
             rw [if_pos (by rw [hnl]; omega)]
             have hjm : k - off * i.size < (news.take (q * i.size)).length:=by omega
             exact ⟨_,List.getElem?_eq_getElem hjm,(hn3 _ _ y (List.getElem?_eq_getElem hjm) hy).mono (fun _ h => h) hkeep⟩
            ·rename_i hk2
             rw [if_neg (by rw [hnl]; omega)]
             obtain ⟨v',hv',hrel⟩:=hf k y hy;exact ⟨v',by rw [Array.getElem?_toList]; exact hv',hrel.mono (fun _ h => h) hkeep⟩)
        exact ⟨σ,S,.imm (.int .i64 _),g1,g2,fun _ _ => rfl⟩
    ·cases h
   ·cases h
  ·cases h
 ·cases h
end
section
variable {P : Program} {Γ : Gam} {Own : Nat → Prop} {σ : Ids} {S : Nat → Prop} {w : World} {R : Nat → Option Row} {s : Nat} {T : Nat → Option AV} {a : Act} {o : Oper} {e : Eff}
theorem RelI.toVal {x : AV} (h : x.plain1 = true) : RelI S w x.toVal x:=by
 cases x <;> simp [AV.plain1] at h
 ·exact .int _ _
 ·exact .bool _
theorem toVal_inv {v : Value} {x : AV} (h : x.plain1 = true) (hr : RelV σ S w v x) : v = x.toVal:=by
 cases x <;> simp [AV.plain1] at h
 ·exact hr.int_inv
 ·exact hr.bool_inv
theorem RelI.toVals {cs : List AV} (h : cs.all AV.plain1 = true) : RelI S w (.agg (cs.map AV.toVal).toArray) (.agg cs):=by
 refine .agg _ _ (by simp) fun i v c hv hc => ?_
 have hp:=List.all_eq_true.1 h c (List.mem_of_getElem? hc);simp [hc] at hv;subst hv;exact RelI.toVal hp
theorem toVals_inv {v : Value} {cs : List AV} (h : cs.all AV.plain1 = true) (hr : RelV σ S w v (.agg cs)) : v = .agg (cs.map AV.toVal).toArray:=by
 obtain ⟨vs,rfl,hl,hr⟩ : ∃ vs,v = .agg vs∧vs.size = cs.length∧∀ (i : Nat) v c,vs[i]? = some v → cs[i]? = some c → RelV σ S w v c:=by
  cases hr with
  | imm hv => cases hv with | agg vs _ hl hr => exact ⟨vs,rfl,hl,fun i v c h1 h2 => .imm (hr i v c h1 h2)⟩
  | agg vs _ hl hr => exact ⟨vs,rfl,hl,hr⟩
 congr 1
 apply Array.ext
 ·simp [hl]
 ·intro i h1 h2
  have hi : i < cs.length:=by omega
  have:=toVal_inv (List.all_eq_true.1 h cs[i] (List.getElem_mem hi)) (hr i _ _ (Array.getElem?_eq_getElem h1) (List.getElem?_eq_getElem hi));simpa using this
theorem eqCells_eq : ∀ {ks : List Bool} {xs ys : List AV},eqCells ks xs ys = some true → xs = ys
 | [],xs,ys,h => by obtain ⟨rfl,rfl,_⟩:=eqCells_nil h; rfl
 | true :: ks,xs,ys,h => by
  obtain ⟨k,a,b,r,r',q',rfl,rfl,h1,h2⟩:=eqCells_int h;have h3:=h2.symm;simp at h3;obtain ⟨rfl,rfl⟩:=h3;rw [eqCells_eq h1]
 | false :: ks,xs,ys,h => by
  obtain ⟨a,b,r,r',q',rfl,rfl,h1,h2⟩:=eqCells_bool h;have h3:=h2.symm;simp at h3;obtain ⟨rfl,rfl⟩:=h3;rw [eqCells_eq h1]
theorem keysOf_spec {kt : TypeId} {ks : List Bool} (h : keysOf P kt = some ks) : ∃ D,P.underlying kt = some D∧((∃ fs : Array Field,D = .struct fs∧∀ f ∈ fs.toList,flatKey P f.type = true) ∨ ∃ n e,D = .array n e∧flatKey P e = true)∧eqKinds P 2 kt = some ks∧agOf P kt = some true:=by
 unfold keysOf at h;split at h
 ·rename_i fs hu
  split at h
  ·rename_i hf
   exact ⟨_,hu,.inl ⟨fs,rfl,List.all_eq_true.1 hf⟩,h,by simp [agOf,hu,isAggD]⟩
  ·cases h
 ·rename_i n e hu
  split at h
  ·rename_i hf
   exact ⟨_,hu,.inr ⟨n,e,rfl,hf⟩,h,by simp [agOf,hu,isAggD]⟩
  ·cases h
 ·cases h
theorem run_checkKey_flat {t : TypeId} (h : flatKey P t = true) (em : Bool) (m : Nat) (v : Value) : (Instr.checkKey em (m + 1) t v).run P w = .ok () w:=by
 unfold flatKey at h;split at h
 ·rename_i k hu
  unfold Instr.checkKey;rw [Sem.run_bind,run_underlying hu,Result.andThen_ok];cases v <;> rfl
 ·rename_i hu
  unfold Instr.checkKey;rw [Sem.run_bind,run_underlying hu,Result.andThen_ok];cases v <;> rfl
 ·cases h
theorem flat_kinds {t : TypeId} {ks : List Bool} (h : flatKey P t = true) (hk : eqKinds P 1 t = some ks) : ks.length = 1∧agOf P t = some false:=by
 unfold flatKey at h;split at h
 ·rename_i k hu
  simp only [eqKinds,hu,Option.some.injEq] at hk; subst hk
  exact ⟨rfl,by simp [agOf,hu,isAggD]⟩
 ·rename_i hu
  simp only [eqKinds,hu,Option.some.injEq] at hk; subst hk
  exact ⟨rfl,by simp [agOf,hu,isAggD]⟩
 ·cases h
theorem run_checkKey_struct {kt : TypeId} {ks : List Bool} (h : keysOf P kt = some ks) {vs : Array Value} {cs : List AV} (hl : vs.size = cs.length) (hn : cs.length = ks.length)
  (hr : ∀ (i : Nat) v c,vs[i]? = some v → cs[i]? = some c → RelV σ S w v c) (em : Bool) : (Instr.checkKey em 10000 kt (.agg vs)).run P w = .ok () w:=by
 obtain ⟨D,hu,hD,hk,_⟩:=keysOf_spec h;rw [show (2 : Nat) = 1 + 1 from rfl,eqKinds,hu] at hk
 rcases hD with ⟨fs,rfl,hf⟩ | ⟨m,e,rfl,hf⟩
 case inr =>
  dsimp only at hk;split at hk
  ·rename_i k1 hk1
   split at hk
   ·rename_i hsz
    simp only [Option.some.injEq] at hk; subst hk
    obtain ⟨h1,hag⟩:=flat_kinds hf hk1;rw [h1] at hsz;obtain ⟨i,hi,hisz⟩:=Option.map_eq_some_iff.1 hsz;have hlen : (List.replicate m k1).flatten.length = m:=by simp [h1]
    rw [hlen] at hn;show (Instr.checkKey em (9999 + 1) kt (.agg vs)).run P w = .ok () w
    unfold Instr.checkKey;simp only [Sem.run_bind,run_underlying hu,Result.andThen_ok];simp only [Std.Legacy.Range.forIn_eq_forIn_range',Std.Legacy.Range.size,Nat.sub_zero,Nat.add_one_sub_one,Nat.div_one];have key : ∀ (r j : Nat),j + r≤cs.length → (forIn (List.range' j r) PUnit.unit fun i (_ : PUnit) => (do Instr.checkKey em 9999 e (← Go.part e vs (i * (← sizeOf e))); pure (ForInStep.yield PUnit.unit) : Sem (ForInStep PUnit))).run P w = .ok PUnit.unit w:=by
     intro r;induction r with
     | zero => intro j _; simp
     | succ r ih =>
      intro j hj;have hp : Abs.part false j 1 cs = some cs[j]:=by
       unfold Abs.part;rw [if_pos (by omega),List.getElem?_eq_getElem (by omega)]
       simp
      obtain ⟨u,ru,_⟩:=run_part (P:=P) hsz hag (fun _=>rfl) hp hl hr
      have hc:=run_checkKey_flat (P:=P) (w:=w) hf em 9998 u;have hs1 : (sizeOf e).run P w = .ok 1 w:=by simp [sizeOf,typeInfo,hi,hisz]
      simp only [List.range'_succ,List.forIn_cons,Sem.run_bind,hs1,Result.andThen_ok,Nat.mul_one,ru,hc,Sem.run_pure];exact ih (j + 1) (by omega)
    have:=key m 0 (by omega)
    simp at this ⊢;rw [this]; rfl
   ·cases hk
  ·cases hk
 dsimp only at hk;split at hk
 ·cases hk
 show (Instr.checkKey em (9999 + 1) kt (.agg vs)).run P w = .ok () w
 unfold Instr.checkKey;simp only [Sem.run_bind,run_underlying hu,Result.andThen_ok];rw [← Array.forIn_toList];have hb : 0 + ks.length≤cs.length:=by omega
 obtain ⟨n,hn0⟩ : ∃ n : Nat,n = 0:=⟨0,rfl⟩;rw [← hn0] at hk hb;clear hn hu h hn0;generalize fs.toList = L at hk hf;induction L generalizing n ks with
 | nil => simp
 | cons f L ih =>
  simp only [eqKindsL] at hk;split at hk
  ·cases hk
  ·rename_i hno
   have hname : f.name ≠ "_" := fun h => hno (.inl h)
   have hoff : f.offset = n:=Decidable.of_not_not fun h=>hno (.inr h)
   split at hk
   ·rename_i k1 hk1
    split at hk
    ·rename_i hsz
     split at hk
     ·rename_i rs hrs
      simp at hk; subst hk
      obtain ⟨h1,hag⟩:=flat_kinds (hf f (by simp)) hk1
      simp only [List.length_append] at hb;rw [h1] at hsz hb;have hp : Abs.part false n 1 cs = some cs[n]:=by
       unfold Abs.part;rw [if_pos (by omega),List.getElem?_eq_getElem (by omega)]
       simp
      obtain ⟨u,ru,_⟩:=run_part (P:=P) hsz hag (fun _=>rfl) hp hl hr
      have hc:=run_checkKey_flat (P:=P) (w:=w) (hf f (by simp)) em 9998 u
      simp only [List.forIn_cons,Sem.run_bind,hname,ne_eq,not_false_eq_true,if_true,Result.andThen_ok,hoff,ru,hc,Sem.run_pure];rw [h1] at hrs;exact @ih rs (n + 1) (by omega) hrs (fun y hy => hf y (by simp [hy]))
     ·cases hk
    ·cases hk
   ·cases hk
theorem findS_spec {kt : TypeId} {ks : List Bool} (hk : keysOf P kt = some ks) {cs : List AV} (hc : cs.all AV.plain1 = true) : ∀ (es : List MapEntry) (keys : List (List AV)) (j : Nat),es.length = keys.length →
  (∀ k ∈ keys,k.all AV.plain1 = true) → (∀ (i : Nat) k,keys[i]? = some k → ∃ e,es[i]? = some e∧e.key = .agg (k.map AV.toVal).toArray) →
  (findS ks cs keys j = some none → (Instr.findAsking kt (.agg (cs.map AV.toVal).toArray) es j).run P w = .ok none w) ∧
  (∀ r,findS ks cs keys j = some (some r) → ∃ i e,r = j + i∧keys[i]? = some cs∧es[i]? = some e∧(Instr.findAsking kt (.agg (cs.map AV.toVal).toArray) es j).run P w = .ok (some (r,e.val)) w)
 | [],[],j,_,_,_ => by simp [findS,Instr.findAsking]
 | [],_ :: _,_,hl,_,_ => by simp at hl
 | _ :: _,[],_,hl,_,_ => by simp at hl
 | m :: es,k :: keys,j,hl,hp,hr => by
  obtain ⟨_,_,_,hks,hag⟩:=keysOf_spec hk;obtain ⟨m',hm,hmk⟩:=hr 0 _ rfl;simp at hm; subst hm
  have ih:=findS_spec hk hc es keys (j + 1) (by simpa using hl) (fun x hx => hp x (List.mem_cons_of_mem _ hx)) (fun i x hx => hr (i + 1) x (by simpa using hx))
  have heq : ∀ q,eqCells ks cs k = some q → (Op.equal kt (.agg (cs.map AV.toVal).toArray) m.key).run P w = .ok q w:=fun q hq => by
   rw [hmk];exact eq_run (σ:=fun _=>none) (S:=fun _=>True) 2 kt ks hks 10000 (by omega) (.agg cs) (.agg k) _ _ q (.imm (RelI.toVals hc)) (.imm (RelI.toVals (hp k (by simp))))
    (by simp [FormOk,hag]) (by simp [FormOk,hag]) hq
  simp only [findS];cases hq : eqCells ks cs k with
  | none => simp
  | some q =>
   have he:=heq q hq;cases q with
   | true =>
    obtain rfl:=eqCells_eq hq;refine ⟨by simp,fun r hr => ?_⟩
    simp at hr; subst hr
    exact ⟨0,m,rfl,rfl,rfl,by simp [Instr.findAsking,he]⟩
   | false =>
    refine ⟨fun h=>?_,fun r h => ?_⟩
    ·simp only [Instr.findAsking,Sem.run_bind,he,Result.andThen_ok]
     exact ih.1 h
    ·obtain ⟨i,e,h1,h2,h3,h4⟩:=ih.2 r h
     refine ⟨i + 1,e,by omega,by simpa using h2,by simpa using h3,?_⟩
     simp only [Instr.findAsking,Sem.run_bind,he,Result.andThen_ok];exact h4
theorem run_findKey_struct {kt : TypeId} {ks : List Bool} (hk : keysOf P kt = some ks) (v : Value) (es : List MapEntry) : (Instr.findKey kt v es).run P w = (Instr.findAsking kt v es 0).run P w:=by
 obtain ⟨D,hu,hD,_⟩:=keysOf_spec hk;unfold Instr.findKey;rw [Sem.run_bind,run_underlying hu,Result.andThen_ok];cases es with
 | nil => simp [Instr.findNow,Instr.findAsking]
 | cons m es =>
  have : Instr.findNow D v (m :: es) 0 = none:=by
   simp only [Instr.findNow];have : Instr.sameNow D v m.key = none:=by
    rcases hD with ⟨fs,rfl,_⟩ | ⟨n,e,rfl,_⟩ <;> unfold Instr.sameNow <;> split <;> simp_all
   rw [this]
  rw [this]
theorem sameBits_toVals {n : Nat} {cs : List AV} (h : cs.all AV.plain1 = true) : Instr.sameBits (n + 1) (.agg (cs.map AV.toVal).toArray) (.agg (cs.map AV.toVal).toArray) = true:=by
 have key : ∀ (l : List AV),l.all AV.plain1 = true → (((l.map AV.toVal).zip (l.map AV.toVal)).all fun (x,y) => Instr.sameBits n x y) = true:=by
  intro l hl;induction l with
  | nil => rfl
  | cons x l ih =>
   simp only [List.all_cons,Bool.and_eq_true] at hl;simp only [List.map_cons,List.zip_cons_cons,List.all_cons,ih hl.2,Bool.and_true];cases x <;> simp [AV.plain1] at hl
   ·simp [AV.toVal,Instr.sameBits]
   ·simp [AV.toVal,Instr.sameBits]
 simp only [Instr.sameBits,beq_self_eq_true,Bool.true_and];simpa using key cs h
theorem okKey_comp : ∀ {ks : List Bool} {a b : List AV},okKey ks a = true → okKey ks b = true → ∃ q,eqCells ks a b = some q
 | [],[],[],_,_ => ⟨true,rfl⟩
 | true :: s,.int .i64 m :: r,.int .i64 n :: r',h1,h2 => by
  obtain ⟨q,hq⟩:=okKey_comp (ks:=s) (a:=r) (b:=r') (by simpa [okKey] using h1) (by simpa [okKey] using h2)
  exact ⟨m == n && q,by simp [eqCells,hq]⟩
 | false :: s,.bool m :: r,.bool n :: r',h1,h2 => by
  obtain ⟨q,hq⟩:=okKey_comp (ks:=s) (a:=r) (b:=r') (by simpa [okKey] using h1) (by simpa [okKey] using h2)
  exact ⟨m == n && q,by simp [eqCells,hq]⟩
theorem okKey_self : ∀ {ks : List Bool} {a : List AV},okKey ks a = true → eqCells ks a a = some true
 | [],[],_ => rfl
 | true :: s,.int .i64 m :: r,h => by
  have:=okKey_self (ks:=s) (a:=r) (by simpa [okKey] using h)
  simp [eqCells,this]
 | false :: s,.bool m :: r,h => by
  have:=okKey_self (ks:=s) (a:=r) (by simpa [okKey] using h)
  simp [eqCells,this]
theorem okKey_len : ∀ {ks : List Bool} {a : List AV},okKey ks a = true → a.length = ks.length
 | [],[],_ => rfl
 | true :: s,.int .i64 m :: r,h => by
  have:=okKey_len (ks:=s) (a:=r) (by simpa [okKey] using h)
  simp [this]
 | false :: s,.bool m :: r,h => by
  have:=okKey_len (ks:=s) (a:=r) (by simpa [okKey] using h)
  simp [this]
theorem findS_total {ks : List Bool} {cs : List AV} (hc : okKey ks cs = true) : ∀ (keys : List (List AV)) (j : Nat),(∀ k ∈ keys,okKey ks k = true) → ∃ o,findS ks cs keys j = some o
 | [],_,_ => ⟨none,rfl⟩
 | k :: keys,j,h => by
  obtain ⟨q,hq⟩:=okKey_comp hc (h k (by simp))
  simp only [findS,hq];cases q with
  | true => exact ⟨some j,rfl⟩
  | false => exact findS_total hc keys (j + 1) fun x hx => h x (List.mem_cons_of_mem _ hx)
theorem findS_not {ks : List Bool} {cs : List AV} (hc : okKey ks cs = true) : ∀ (keys : List (List AV)) (j : Nat),findS ks cs keys j = some none → cs ∉ keys
 | [],_,_,h => by cases h
 | k :: keys,j,hf,hm => by
  simp only [findS] at hf;rcases List.mem_cons.1 hm with rfl | hm
  ·rw [okKey_self hc] at hf
   simp at hf
  ·split at hf
   ·simp at hf
   ·exact findS_not hc keys (j + 1) hf hm
   ·simp at hf
theorem findS_at {ks : List Bool} {cs : List AV} : ∀ (keys : List (List AV)) (j r : Nat),findS ks cs keys j = some (some r) → ∃ i,r = j + i∧keys[i]? = some cs
 | [],_,_,h => by simp [findS] at h
 | k :: keys,j,r,hf => by
  simp only [findS] at hf;split at hf
  ·rename_i hq
   simp at hf; subst hf
   exact ⟨0,rfl,by rw [eqCells_eq hq]; rfl⟩
  ·obtain ⟨i,h1,h2⟩:=findS_at keys (j + 1) r hf
   exact ⟨i + 1,by omega,by simpa using h2⟩
  ·simp at hf
theorem set_perm {α : Type} : ∀ (l : List α) (i : Nat) (b : α),i < l.length → (l.set i b).Perm (b :: l.eraseIdx i)
 | [],_,_,h => by simp at h
 | x :: l,0,b,_ => by simp
 | x :: l,i + 1,b,h => by
  simp only [List.set_cons_succ,List.eraseIdx_cons_succ];exact ((set_perm l i b (by simpa using h)).cons x).trans (List.Perm.swap _ _ _)
theorem at_perm {α : Type} {l : List α} {i : Nat} {a : α} (h : l[i]? = some a) : l.Perm (a :: l.eraseIdx i):=by
 have hl:=(List.getElem?_eq_some_iff.1 h).1;have:=set_perm l i a hl
 rwa [show l.set i a = l from List.ext_getElem? fun j=>by
  by_cases hj : i = j
  ·subst hj; rw [List.getElem?_set_self hl,h]
  ·rw [List.getElem?_set_ne hj]] at this
theorem perm_erase {α : Type} {l l' : List α} (h : l.Perm l') {a : α} {i j : Nat} (hi : l[i]? = some a) (hj : l'[j]? = some a) : (l.eraseIdx i).Perm (l'.eraseIdx j) :=
 ((at_perm hi).symm.trans (h.trans (at_perm hj))).cons_inv
theorem perm_set {α : Type} {l l' : List α} (h : l.Perm l') {a : α} (b : α) {i j : Nat} (hi : l[i]? = some a) (hj : l'[j]? = some a) : (l.set i b).Perm (l'.set j b) :=
 (set_perm l i b (List.getElem?_eq_some_iff.1 hi).1).trans (((perm_erase h hi hj).cons b).trans (set_perm l' j b (List.getElem?_eq_some_iff.1 hj).1).symm)
theorem zip_set {α β : Type} : ∀ (keys : List α) (vals : List β) (i : Nat) (k : α) (v : β),keys[i]? = some k → (keys.zip vals).set i (k,v) = keys.zip (vals.set i v)
 | [],_,_,_,_,h => by simp at h
 | _ :: _,[],_,_,_,_ => by simp
 | x :: keys,y :: vals,0,k,v,h => by simp at h; simp [h]
 | x :: keys,y :: vals,i + 1,k,v,h => by simp [zip_set keys vals i k v (by simpa using h)]
theorem zip_at {α β : Type} {keys : List α} {vals : List β} {i : Nat} {k : α} {v : β} (h1 : keys[i]? = some k) (h2 : vals[i]? = some v) : (keys.zip vals)[i]? = some (k,v):=by
 simp [List.getElem?_zip_eq_some,h1,h2]
theorem zip_fst {α β : Type} : ∀ {keys : List α} {vals : List β},keys.length = vals.length → (keys.zip vals).map (·.1) = keys
 | [],_,_ => by simp
 | _ :: _,[],h => by simp at h
 | x :: keys,y :: vals,h => by simp [zip_fst (keys:=keys) (vals:=vals) (by simpa using h)]
theorem zip_snd {α β : Type} : ∀ {keys : List α} {vals : List β},keys.length = vals.length → (keys.zip vals).map (·.2) = vals
 | [],[],_ => rfl
 | [],_ :: _,h => by simp at h
 | _ :: _,[],h => by simp at h
 | x :: keys,y :: vals,h => by simp [zip_snd (keys:=keys) (vals:=vals) (by simpa using h)]
theorem EntS.set {ks : List Bool} {es es1 : Array MapEntry} {clock : Nat} {keys : List (List AV)} {vals : List AV} (hE : EntS ks es clock keys vals) {j : Nat} {cs : List AV} {e0 e1 : MapEntry} {v : AV} (h2 : keys[j]? = some cs) (h3 : es[j]? = some e0)
  (hz : es1.size = es.size) (h4 : es1[j]? = some e1) (ho : ∀ i,i ≠ j → es1[i]? = es[i]?) (hk : e1.key = .agg (cs.map AV.toVal).toArray) (hv : e1.val = v.toVal) (hb : e1.born = e0.born) (hpl : v.plain1 = true) : EntS ks es1 clock keys (vals.set j v):=by
 have hlk : j < keys.length:=(List.getElem?_eq_some_iff.1 h2).1;have hlv : j < vals.length:=by have:=hE.m; omega
 have hbn : es1.toList.map (·.born) = es.toList.map (·.born):=by
  apply List.ext_getElem?;intro i;simp only [List.getElem?_map,Array.getElem?_toList];by_cases hi : i = j
  ·subst hi; rw [h4,h3]; simp [hb]
  ·rw [ho i hi]
 refine ⟨by rw [hz]; exact hE.n,by simp [hE.m],hE.pk,hE.ok,hE.nd,fun x hx => ?_,by rw [hbn]; exact hE.bn,fun e he => ?_,fun i k x hi hx => ?_⟩
 ·rcases List.mem_or_eq_of_mem_set hx with hx | rfl
  ·exact hE.pv x hx
  ·exact hpl
 ·have : e.born ∈ es.toList.map (·.born):=by rw [← hbn]; exact List.mem_map.2 ⟨e,he,rfl⟩
  obtain ⟨e',he',q⟩:=List.mem_map.1 this;have:=hE.bc e' he';omega
 ·by_cases hij : i = j
  ·subst hij
   rw [h2] at hi; cases hi
   rw [List.getElem?_set_self hlv] at hx;cases hx;exact ⟨e1,h4,hk,hv⟩
  ·rw [List.getElem?_set_ne (Ne.symm hij)] at hx
   rw [ho i hij];exact hE.e i k x hi hx
theorem EntS.push {ks : List Bool} {es : Array MapEntry} {clock : Nat} {keys : List (List AV)} {vals : List AV} (hE : EntS ks es clock keys vals) {cs : List AV} {e1 : MapEntry} {v : AV} (hn : cs ∉ keys) (hc : cs.all AV.plain1 = true) (hok : okKey ks cs = true)
  (hk : e1.key = .agg (cs.map AV.toVal).toArray) (hv : e1.val = v.toVal) (hb : e1.born = clock) (hpl : v.plain1 = true) : EntS ks (es.push e1) (clock + 1) (keys ++ [cs]) (vals ++ [v]):=by
 refine ⟨by simp [hE.n],by simp [hE.m],fun y hy => ?_,fun y hy => ?_,?_,fun y hy => ?_,?_,fun e he => ?_,fun i k x hi hx => ?_⟩
 ·rcases List.mem_append.1 hy with hy | hy
  ·exact hE.pk y hy
  ·rw [List.mem_singleton.1 hy]; exact hc
 ·rcases List.mem_append.1 hy with hy | hy
  ·exact hE.ok y hy
  ·rw [List.mem_singleton.1 hy]; exact hok
 ·refine List.nodup_append.2 ⟨hE.nd,by simp,fun a ha b hb => ?_⟩
  rw [List.mem_singleton.1 hb];rintro rfl;exact hn ha
 ·rcases List.mem_append.1 hy with hy | hy
  ·exact hE.pv y hy
  ·rw [List.mem_singleton.1 hy]; exact hpl
 ·simp only [Array.toList_push,List.map_append,List.map_cons,List.map_nil]
  refine List.nodup_append.2 ⟨hE.bn,by simp,fun b h1 c hc => ?_⟩
  obtain ⟨e,he,rfl⟩:=List.mem_map.1 h1;have:=hE.bc e he;rw [List.mem_singleton.1 hc]; omega
 ·simp only [Array.toList_push,List.mem_append,List.mem_singleton] at he
  rcases he with he | rfl
  ·have:=hE.bc e he; omega
  ·omega
 ·by_cases hl : i < keys.length
  ·rw [List.getElem?_append_left hl] at hi
   rw [List.getElem?_append_left (by have:=hE.m; omega)] at hx
   obtain ⟨e,q1,q2,q3⟩:=hE.e i k x hi hx;refine ⟨e,?_,q2,q3⟩;rw [Array.getElem?_push_lt (by have:=hE.n; omega),← Array.getElem?_eq_getElem]; exact q1
  ·have hi' : i = keys.length:=by
    have:=(List.getElem?_eq_some_iff.1 hi).1;simp at this; omega
   subst hi';have hvl:=hE.m;simp at hi; subst hi
   rw [List.getElem?_append_right (by omega),hvl] at hx
   simp at hx; subst hx
   exact ⟨e1,by rw [← hE.n]; simp,hk,hv⟩
theorem EntP.found {ks : List Bool} {es : Array MapEntry} {clock : Nat} {keys : List (List AV)} {vals : List AV} {cs : List AV} {i : Nat} (h : EntP ks es clock keys vals) (hok : okKey ks cs = true) (hf : findS ks cs keys 0 = some (some i)) :
  ∃ keys' vals' j e v,EntS ks es clock keys' vals'∧(keys.zip vals).Perm (keys'.zip vals')∧findS ks cs keys' 0 = some (some j)∧keys[i]? = some cs∧vals[i]? = some v∧keys'[j]? = some cs∧vals'[j]? = some v ∧
   es[j]? = some e∧e.key = .agg (cs.map AV.toVal).toArray∧e.val = v.toVal∧v.plain1 = true:=by
 obtain ⟨hl,keys',vals',hE,hp⟩:=h;obtain ⟨i',h1,h2⟩:=findS_at keys 0 i hf;rw [Nat.zero_add] at h1; subst h1
 have hil:=(List.getElem?_eq_some_iff.1 h2).1;have hv : vals[i]? = some vals[i]:=List.getElem?_eq_getElem (by omega)
 have hm : (cs,vals[i]) ∈ keys'.zip vals':=hp.mem_iff.1 (List.mem_of_getElem? (zip_at h2 hv));obtain ⟨j,hj⟩:=List.mem_iff_getElem?.1 hm;rw [List.getElem?_zip_eq_some] at hj;obtain ⟨o,ho⟩:=findS_total hok keys' 0 hE.ok;have hmk:=List.mem_of_getElem? hj.1;cases o with
 | none => exact absurd hmk (findS_not hok keys' 0 ho)
 | some j' =>
  obtain ⟨j2,g1,g2⟩:=findS_at keys' 0 j' ho;rw [Nat.zero_add] at g1; subst g1
  have hjj : j' = j:=(List.getElem?_inj (List.getElem?_eq_some_iff.1 g2).1 hE.nd).1 (g2.trans hj.1.symm);subst hjj;obtain ⟨e,q1,q2,q3⟩:=hE.e j' _ _ g2 hj.2;exact ⟨keys',vals',j',e,_,hE,hp,ho,h2,hv,g2,hj.2,q1,q2,q3,hE.pv _ (List.mem_of_getElem? hj.2)⟩
theorem EntP.not {ks : List Bool} {es : Array MapEntry} {clock : Nat} {keys : List (List AV)} {vals : List AV} {cs : List AV} (h : EntP ks es clock keys vals) (hok : okKey ks cs = true) (hf : findS ks cs keys 0 = some none) :
  ∃ keys' vals',EntS ks es clock keys' vals'∧(keys.zip vals).Perm (keys'.zip vals')∧findS ks cs keys' 0 = some none∧cs ∉ keys':=by
 obtain ⟨hl,keys',vals',hE,hp⟩:=h;have h1:=findS_not hok keys 0 hf;have h2 : cs ∉ keys':=fun hm=>h1 (by
  have hm' : cs ∈ (keys'.zip vals').map (·.1):=by rw [zip_fst hE.m.symm]; exact hm
  have:=(hp.map (·.1)).mem_iff.2 hm'
  rwa [zip_fst hl] at this)
 obtain ⟨o,ho⟩:=findS_total hok keys' 0 hE.ok;cases o with
 | none => exact ⟨keys',vals',hE,hp,ho,h2⟩
 | some j =>
  obtain ⟨j2,g1,g2⟩:=findS_at keys' 0 j ho;exact absurd (List.mem_of_getElem? g2) h2
theorem EntS.spec {P : Program} {w : World} {kt : TypeId} {ks : List Bool} (hkt : keysOf P kt = some ks) {es : Array MapEntry} {clock : Nat} {keys : List (List AV)} {vals : List AV} {cs : List AV} (hE : EntS ks es clock keys vals) (hcs : cs.all AV.plain1 = true) :
  (findS ks cs keys 0 = some none → (Instr.findAsking kt (.agg (cs.map AV.toVal).toArray) es.toList 0).run P w = .ok none w) ∧
  (∀ r,findS ks cs keys 0 = some (some r) → ∃ i e,r = 0 + i∧keys[i]? = some cs∧es.toList[i]? = some e∧(Instr.findAsking kt (.agg (cs.map AV.toVal).toArray) es.toList 0).run P w = .ok (some (r,e.val)) w) :=
 findS_spec (P:=P) (w:=w) hkt hcs es.toList keys 0 (by simpa using hE.n) hE.pk (fun i k hki => by
  have hiv : i < vals.length:=by have:=(List.getElem?_eq_some_iff.1 hki).1; have:=hE.m; omega
  obtain ⟨e,h1,h2,_⟩:=hE.e i k _ hki (List.getElem?_eq_getElem hiv);exact ⟨e,by rw [Array.getElem?_toList]; exact h1,h2⟩)
theorem EntP.set {ks : List Bool} {es : Array MapEntry} {clock1 : Nat} {keys keys' : List (List AV)} {vals vals' : List AV} {cs : List AV} {i j : Nat} {u : AV} (v : AV) (hl : keys.length = vals.length) (hp : (keys.zip vals).Perm (keys'.zip vals'))
  (h1 : keys[i]? = some cs) (h2 : vals[i]? = some u) (h3 : keys'[j]? = some cs) (h4 : vals'[j]? = some u) (hE : EntS ks es clock1 keys' (vals'.set j v)) : EntP ks es clock1 keys (vals.set i v) :=
 ⟨by simp [hl],keys',_,hE,by rw [← zip_set _ _ _ _ _ h1,← zip_set _ _ _ _ _ h3]; exact perm_set hp _ (zip_at h1 h2) (zip_at h3 h4)⟩
theorem zip_snoc {α β : Type} {keys : List α} {vals : List β} (k : α) (v : β) (h : keys.length = vals.length) : (keys ++ [k]).zip (vals ++ [v]) = keys.zip vals ++ [(k,v)]:=by
 rw [List.zip_append h]; rfl
theorem EntP.push {ks : List Bool} {es : Array MapEntry} {clock1 : Nat} {keys keys' : List (List AV)} {vals vals' : List AV} {cs : List AV} (v : AV) (hl : keys.length = vals.length) (hl' : keys'.length = vals'.length) (hp : (keys.zip vals).Perm (keys'.zip vals'))
  (hE : EntS ks es clock1 (keys' ++ [cs]) (vals' ++ [v])) : EntP ks es clock1 (keys ++ [cs]) (vals ++ [v]) :=
 ⟨by simp [hl],_,_,hE,by rw [zip_snoc _ _ hl,zip_snoc _ _ hl']; exact hp.append_right _⟩
theorem sortK_perm : ∀ l : List (List AV × AV),(sortK l).Perm l
 | [] => .nil
 | x :: l => by
  have key : ∀ m : List (List AV × AV),(insK x m).Perm (x :: m):=by
   intro m;induction m with
   | nil => exact .refl _
   | cons y m ih =>
    simp only [insK];split
    ·exact .refl _
    ·exact (ih.cons y).trans (List.Perm.swap _ _ _)
  exact (key _).trans ((sortK_perm l).cons x)
theorem EntP.sort {ks : List Bool} {es : Array MapEntry} {clock : Nat} {keys : List (List AV)} {vals : List AV} (h : EntP ks es clock keys vals) : EntP ks es clock ((sortK (keys.zip vals)).map (·.1)) ((sortK (keys.zip vals)).map (·.2)):=by
 obtain ⟨hl,keys',vals',hE,hp⟩:=h;refine ⟨by simp,keys',vals',hE,?_⟩
 rw [List.zip_map'];simpa using (sortK_perm _).trans hp
theorem RowsOk.stamp (n : Nat) (h : RowsOk P Γ Own σ S w R) (hs : σ s = none) : RowsOk P Γ Own (σ.set s (.stamp n)) S w R∧Ext Own σ S w (σ.set s (.stamp n)) S w:=by
 have hle : σ.le (σ.set s (.stamp n)):=Ids.le_set hs;have hno : ∀ j b,Loc.has ((σ.set s (.stamp n)) j) b → j ≠ s∧Loc.has (σ j) b:=fun j b hb => by
  by_cases hj : j = s
  ·subst hj
   obtain ⟨l,hl,hb⟩:=hb;rw [Ids.set_self] at hl; cases hl
   simp [Loc.blocks] at hb
  ·rw [Ids.set_other hj] at hb; exact ⟨hj,hb⟩
 exact ⟨⟨fun id r hi => (h.ok id r hi).mono hle (fun _ h => h) (fun _ _ => rfl) (Nat.le_refl _) (fun _ _ => rfl),fun id r b hi hb => h.apart id r b hi (hno _ _ hb).2,fun id id' r r' b hi hi' hb hb' => h.inj id id' r r' b hi hi' (hno _ _ hb).2 (hno _ _ hb').2,h.old⟩,
  ⟨hle,fun _ h => h,fun _ _ => rfl,fun _ _ => rfl,Same.refl w,fun _ h => .inl h⟩⟩
theorem mkMapS_sound {t : TypeId} {ks : List Bool} (hR : RowsOk P Γ Own σ S w R) (hF : Free Own σ w s) (ho : o.op = .makeMap t none) (call : CallF)
  (h : evalOp call s (getO T) R (.mkMapS ks) = some e) : ∃ v w',OpRuns P a o w v w'∧Step P Γ Own σ S w R s e v w':=by
 simp only [evalOp,Option.some.injEq] at h; subst h
 refine ⟨.map (some w.heap.size),w.alloc (.map #[] 0),.inl (by simp [execOp,ho,Instr.makeMap]),?_⟩
 obtain ⟨q1,q2⟩:=hR.alloc (w':=w.alloc (.map #[] 0)) (l:=.map w.heap.size) (row:=.mpS ks [] []) hF.head hF.own (fun b hb => List.mem_singleton.1 hb)
  (fun b hb => heap_alloc_old w _ b hb) (Same.alloc w _) ⟨w.heap.size,#[],0,Ids.set_self ..,heap_alloc_new w _,rfl,[],[],⟨by simp,by simp,by simp,by simp,by simp,by simp,by simp,by simp,by simp⟩,.refl _⟩
 exact ⟨_,S,.mapp s _ (Ids.set_self ..),q1,q2,set_outside⟩
theorem mapSetS_sound {t kt et : TypeId} {ks : List Bool} {m k x : Operand} {am ak ax : AOpd} {t1 t2 t3 : Option TypeId} (hT : TmpsOk σ S w T a) (hR : RowsOk P Γ Own σ S w R)
  (ho : o.op = .mapUpdate t m k x ∨ o.op = .insert t m k x) (ht : P.underlying t = some (.map kt et)) (hkt : keysOf P kt = some ks)
  (hm : opd P t1 m = some am) (hk : opd P t2 k = some ak) (hx : opd P t3 x = some ax) (h : evMapSetS (getO T) R ks am ak ax = some e) : ∃ v w',OpRuns P a o w v w'∧Step P Γ Own σ S w R s e v w':=by
 unfold evMapSetS at h;split at h
 ·rename_i id cs v hgm hgk hgx
  split at h
  ·rename_i hc
   obtain ⟨hpl,hcs,hok⟩:=hc;split at h
   ·rename_i k0 keys vals hr
    split at h
    ·rename_i hk0
     subst hk0;have hvm:=Yp hT hm hgm;have hvx:=toVal_inv hpl (Yp hT hx hgx);have hek:=toVals_inv hcs (Yp hT hk hgk);generalize hem : a.eval m = vm at hvm;cases hvm with
     | imm hv => cases hv
     | mapp id r hσ =>
      obtain ⟨r',es,clock,hloc,hh,hE⟩:=hR.ok id _ hr;have q:=hloc.symm.trans hσ;simp only [Option.some.injEq,Loc.map.injEq] at q;subst q;have hund : ∀ {σ' : Ids} {S' : Nat → Prop} {w' : World},RelV σ' S' w' undef (.tuple []):=.tuple #[] [] rfl (by simp)
      have hrlt : r' < w.heap.size:=(Array.getElem?_eq_some_iff.1 hh).1;have hfin : ∀ (es' : Array MapEntry) (clock' : Nat) (keys' : List (List AV)) (vals' : List AV),(Instr.mapUpdate t (.map (some r')) (.agg (cs.map AV.toVal).toArray) (a.eval x)).run P w = .ok () { w with heap:=w.heap.setIfInBounds r' (.map es' clock') } →
        EntP k0 es' clock' keys' vals' → ∃ v' w',OpRuns P a o w v' w'∧Step P Γ Own σ S w R s ⟨.tuple [],[(id,some (.mpS k0 keys' vals'))],[id]⟩ v' w':=by
       intro es' clock' keys' vals' hrun hent;refine ⟨undef,{ w with heap:=w.heap.setIfInBounds r' (.map es' clock') },.inr ⟨by rcases ho with ho | ho <;> simp only [execOp,ho,hem,hek,Sem.run_bind,hrun,Result.andThen_ok,Sem.run_pure],rfl⟩,?_⟩
       obtain ⟨q1,q2⟩:=hR.turn (w':={ w with heap:=w.heap.setIfInBounds r' (.map es' clock') }) (row:=.mpS k0 keys' vals') hr (has_map hloc)
        (fun b hb => Array.getElem?_setIfInBounds_ne (Ne.symm hb)) ⟨rfl,rfl,rfl,by simp⟩ (fun hkeep=>⟨r',es',clock',hloc,by simp [hrlt],hent⟩)
       exact ⟨σ,S,hund,q1,q2,fun _ _ => rfl⟩
      have hck : (Instr.checkKey false 10000 kt (.agg (cs.map AV.toVal).toArray)).run P w = .ok () w :=
       run_checkKey_struct (σ:=σ) (S:=S) hkt (cs:=cs) (by simp) (okKey_len hok) (fun i v c hv hc => by
        have hp:=List.all_eq_true.1 hcs c (List.mem_of_getElem? hc);simp [hc] at hv; subst hv
        exact .imm (RelI.toVal hp)) false
      split at h
      ·rename_i i hfi
       simp only [Option.some.injEq] at h; subst h
       obtain ⟨keys',vals',j,e0,u,hE',hp,hf',hki,hvi,hkj,hvj,h3,g2,g3,_⟩:=hE.found hok hfi;obtain ⟨i',e1,h1,_,h3',h4⟩:=(hE'.spec (P:=P) (w:=w) hkt hcs).2 j hf';rw [Nat.zero_add] at h1; subst h1
       rw [Array.getElem?_toList,h3] at h3'; cases h3'
       refine hfin (es.modify j fun e=>{ e with key:=.agg (cs.map AV.toVal).toArray,val:=a.eval x }) clock keys (vals.set i v) ?_ (EntP.set v hE.1 hp hki hvi hkj hvj (hE'.set hkj h3 (by simp) (e1:={ e0 with key:=.agg (cs.map AV.toVal).toArray,val:=a.eval x }) (by simp [Array.getElem?_modify,h3]) (fun i hi => by simp [Array.getElem?_modify,Ne.symm hi]) rfl hvx rfl hpl))
       unfold Instr.mapUpdate;have hstay : (Instr.keyThatStays e0.key (.agg (cs.map AV.toVal).toArray)).run P w = .ok (.agg (cs.map AV.toVal).toArray) w:=by
        unfold Instr.keyThatStays;rw [g2,sameBits_toVals (n:=9999) hcs];simp
       simp only [Sem.run_bind,run_underlying ht,Result.andThen_ok,run_getObj_map' hh,hck,run_findKey_struct hkt,h4,Sem.run_pure,h3,Option.map_some,Option.getD_some,hstay,run_setObj_map' hh]
      ·rename_i hfi
       simp only [Option.some.injEq] at h; subst h
       obtain ⟨keys',vals',hE',hp,hf',hn'⟩:=hE.not hok hfi;have h4:=(hE'.spec (P:=P) (w:=w) hkt hcs).1 hf';refine hfin (es.push { key:=.agg (cs.map AV.toVal).toArray,val:=a.eval x,born:=clock }) (clock + 1) (keys ++ [cs]) (vals ++ [v]) ?_ (EntP.push v hE.1 hE'.m.symm hp (hE'.push hn' hcs hok rfl hvx rfl hpl));unfold Instr.mapUpdate;simp only [Sem.run_bind,run_underlying ht,Result.andThen_ok,run_getObj_map' hh,hck,run_findKey_struct hkt,h4,Sem.run_pure,run_setObj_map' hh]
      ·cases h
    ·cases h
   ·cases h
  ·cases h
 ·cases h
theorem EntE.entP {ks : List Bool} {es : Array MapEntry} {clock : Nat} {keys : List (List AV)} {vals : List AV} {i n : Nat} (h : EntE ks es clock keys vals i n) : EntP ks es clock keys vals:=by
 obtain ⟨h1,keys',vals',_,_,_,h2,h3,_⟩:=h;exact ⟨h1,keys',vals',h2,h3⟩
theorem mapGetS_core {t kt et : TypeId} {ks : List Bool} {z : AV} {ok : Bool} {m k : Operand} {i : TypeInfo} {zv : Value} {id r' : Nat} {cs : List AV} {keys : List (List AV)} {vals : List AV} {k0 : List Bool} {es : Array MapEntry} {clock : Nat} (hR : RowsOk P Γ Own σ S w R)
  (ho : o.op = .lookup t m k ok) (ht : P.underlying t = some (.map kt et)) (hkt : keysOf P kt = some ks) (hi : P.info? et = some i) (hzv : i.zero = some zv) (hz : ofVal P et zv = some z) (hcs : cs.all AV.plain1 = true) (hok : okKey ks cs = true)
  (hem : a.eval m = .map (some r')) (hek : a.eval k = .agg (cs.map AV.toVal).toArray) (hh : w.heap[r']? = some (.map es clock)) (hE : EntP k0 es clock keys vals) (h : mapGetR ks cs z ok id k0 keys vals = some e) : ∃ v w',OpRuns P a o w v w'∧Step P Γ Own σ S w R s e v w':=by
 unfold mapGetR at h;split at h
 ·rename_i hk0
  subst hk0;have hck : (Instr.checkKey es.isEmpty 10000 kt (.agg (cs.map AV.toVal).toArray)).run P w = .ok () w :=
   run_checkKey_struct (σ:=σ) (S:=S) hkt (cs:=cs) (by simp) (okKey_len hok) (fun i v c hv hc => by
    have hp:=List.all_eq_true.1 hcs c (List.mem_of_getElem? hc);simp [hc] at hv; subst hv
    exact .imm (RelI.toVal hp)) _
  have two : ∀ {v : Value} {x : AV} {b : Bool},RelV σ S w v x → RelV σ S w (if ok then .tuple #[v,.bool b] else v) (if ok then .tuple [x,.bool b] else x):=by
   intro v x b hv;cases ok with
   | true =>
    refine .tuple _ _ rfl fun i u c hu hc => ?_
    match i with
    | 0 => simp at hu hc; subst hu hc; exact hv
    | 1 => simp at hu hc; subst hu hc; exact .imm (.bool b)
    | i + 2 => simp at hu
   | false => exact hv
  split at h
  ·rename_i j hfj
   split at h
   ·rename_i v hv
    simp only [Option.some.injEq] at h; subst h
    obtain ⟨keys',vals',j',e0,u,hE',hp,hf',hki,hvi,hkj,hvj,h3,g2,g3,hpv⟩:=hE.found hok hfj;obtain ⟨i',e1,h1,_,h3',h4⟩:=(hE'.spec (P:=P) (w:=w) hkt hcs).2 j' hf';rw [Nat.zero_add] at h1; subst h1
    rw [Array.getElem?_toList,h3] at h3'; cases h3'
    rw [hv] at hvi; cases hvi
    refine fin_pure hR (sem:=Instr.lookup t (a.eval m) (a.eval k) ok) (by simp [execOp,ho]) (u:=if ok then .tuple #[e0.val,.bool true] else e0.val) ?_ (two (by rw [g3]; exact .imm (RelI.toVal hpv)))
    rw [hem,hek];unfold Instr.lookup;simp only [Sem.run_bind,run_underlying ht,Result.andThen_ok,run_getObj_map' hh,hck,run_findKey_struct hkt,h4,Sem.run_pure]
   ·cases h
  ·rename_i hfj
   simp only [Option.some.injEq] at h; subst h
   obtain ⟨keys',vals',hE',hp,hf',hn'⟩:=hE.not hok hfj;have h4:=(hE'.spec (P:=P) (w:=w) hkt hcs).1 hf';refine fin_pure hR (sem:=Instr.lookup t (a.eval m) (a.eval k) ok) (by simp [execOp,ho]) (u:=if ok then .tuple #[zv,.bool false] else zv) ?_ (two (.imm (ofVal_rel hz)))
   rw [hem,hek];unfold Instr.lookup;simp only [Sem.run_bind,run_underlying ht,Result.andThen_ok,run_getObj_map' hh,hck,run_findKey_struct hkt,h4,Sem.run_pure,zeroValue,typeInfo,run_program,hi,hzv]
  ·cases h
 ·cases h
theorem mapGetS_sound {t kt et : TypeId} {ks : List Bool} {z : AV} {ok : Bool} {m k : Operand} {am ak : AOpd} {t1 t2 : Option TypeId} (hT : TmpsOk σ S w T a) (hR : RowsOk P Γ Own σ S w R)
  (ho : o.op = .lookup t m k ok) (ht : P.underlying t = some (.map kt et)) (hkt : keysOf P kt = some ks) (hz : zeroOf P et = some z)
  (hm : opd P t1 m = some am) (hk : opd P t2 k = some ak) (h : evMapGetS (getO T) R ks z ok am ak = some e) : ∃ v w',OpRuns P a o w v w'∧Step P Γ Own σ S w R s e v w':=by
 unfold zeroOf at hz;split at hz
 ·rename_i i hi
  split at hz
  ·rename_i zv hzv
   split at hz
   ·unfold evMapGetS at h
    split at h
    ·rename_i id cs hgm hgk
     split at h
     ·rename_i hc
      obtain ⟨hcs,hok⟩:=hc;split at h
      ·rename_i k0 keys vals hr
       have hvm:=Yp hT hm hgm;have hek:=toVals_inv hcs (Yp hT hk hgk);generalize hem : a.eval m = vm at hvm;cases hvm with
       | imm hv => cases hv
       | mapp id r hσ =>
        obtain ⟨r',es,clock,hloc,hh,hE⟩:=hR.ok id _ hr;have q:=hloc.symm.trans hσ;simp only [Option.some.injEq,Loc.map.injEq] at q;subst q;exact mapGetS_core hR ho ht hkt hi hzv hz hcs hok hem hek hh hE h
      ·rename_i k0 keys vals i0 s0 hr
       have hvm:=Yp hT hm hgm;have hek:=toVals_inv hcs (Yp hT hk hgk);generalize hem : a.eval m = vm at hvm;cases hvm with
       | imm hv => cases hv
       | mapp id r hσ =>
        obtain ⟨r',es,clock,n,hloc,hh,_,hE⟩:=hR.ok id _ hr;have q:=hloc.symm.trans hσ;simp only [Option.some.injEq,Loc.map.injEq] at q;subst q;exact mapGetS_core hR ho ht hkt hi hzv hz hcs hok hem hek hh hE.entP h
      ·cases h
     ·cases h
    ·cases h
   ·cases hz
  ·cases hz
 ·cases hz
end
end Go.Abs
namespace Go.Abs
section
variable {P : Program} {Γ : Gam} {Own : Nat → Prop} {σ : Ids} {S : Nat → Prop} {w : World} {R : Nat → Option Row} {s : Nat} {T : Nat → Option AV} {a : Act} {o : Oper} {e : Eff}
theorem findNow_none {k kd : IntKind} {n : Int} : ∀ (es : List MapEntry) (kv : List (Int × AV)) (j : Nat),es.length = kv.length → (∀ (i : Nat) x,kv[i]? = some x → ∃ e,es[i]? = some e∧e.key = .int k x.1) →
  kvGet n kv = none → Instr.findNow (.int kd) (.int k n) es j = some none
 | [],[],j,_,_,_ => rfl
 | [],_ :: _,_,hl,_,_ => by simp at hl
 | _ :: _,[],_,hl,_,_ => by simp at hl
 | m :: es,(j',v') :: kv,j,hl,hr,h => by
  obtain ⟨m',hm,hk⟩:=hr 0 _ rfl;simp at hm; subst hm
  have hsame : Instr.sameNow (.int kd) (.int k n) m.key = some (n == j'):=by rw [hk]; simp [Instr.sameNow]
  simp only [kvGet] at h;split at h
  ·cases h
  ·rename_i hj
   have hne : (n == j') = false:=by simpa using Ne.symm hj
   rw [hne] at hsame;simp only [Instr.findNow,hsame];exact findNow_none es kv (j + 1) (by simpa using hl) (fun i x hx => hr (i + 1) x (by simpa using hx)) h
theorem mkMapV_sound {t : TypeId} {k : IntKind} (hR : RowsOk P Γ Own σ S w R) (hF : Free Own σ w s) (ho : o.op = .makeMap t none) (call : CallF)
  (h : evalOp call s (getO T) R (.mkMapV k) = some e) : ∃ v w',OpRuns P a o w v w'∧Step P Γ Own σ S w R s e v w':=by
 simp only [evalOp,Option.some.injEq] at h; subst h
 refine ⟨.map (some w.heap.size),w.alloc (.map #[] 0),.inl (by simp [execOp,ho,Instr.makeMap]),?_⟩
 obtain ⟨q1,q2⟩:=hR.alloc (w':=w.alloc (.map #[] 0)) (l:=.map w.heap.size) (row:=.mpV k []) hF.head hF.own (fun b hb => List.mem_singleton.1 hb)
  (fun b hb => heap_alloc_old w _ b hb) (Same.alloc w _) ⟨w.heap.size,#[],0,Ids.set_self ..,heap_alloc_new w _,by simp,by simp,by simp [EntsV,kvA]⟩
 exact ⟨_,S,.mapp s _ (Ids.set_self ..),q1,q2,set_outside⟩
theorem mapSetV_sound {t kt et : TypeId} {kk : IntKind} {m k x : Operand} {am ak ax : AOpd} {t1 t2 t3 : Option TypeId} (hT : TmpsOk σ S w T a) (hR : RowsOk P Γ Own σ S w R)
  (ho : o.op = .mapUpdate t m k x ∨ o.op = .insert t m k x) (ht : P.underlying t = some (.map kt et)) (hkt : P.underlying kt = some (.int kk))
  (hm : opd P t1 m = some am) (hk : opd P t2 k = some ak) (hx : opd P t3 x = some ax) (h : evMapSetV (getO T) R kk am ak ax = some e) : ∃ v w',OpRuns P a o w v w'∧Step P Γ Own σ S w R s e v w':=by
 unfold evMapSetV at h;split at h
 ·rename_i id kk' n v hgm hgk hgx
  split at h
  ·rename_i hkk
   subst hkk;split at h
   ·rename_i k0 kv hr
    split at h
    ·rename_i hk0
     subst hk0;split at h
     ·rename_i hget
      simp only [Option.some.injEq] at h; subst h
      have hvm:=Yp hT hm hgm;have hvx:=Yp hT hx hgx;have hek:=(Yp hT hk hgk).int_inv;generalize hem : a.eval m = vm at hvm;cases hvm with
      | imm hv => cases hv
      | mapp id r hσ =>
       obtain ⟨r',es,clock,hloc,hh,hnd,hcl,hE⟩:=hR.ok id _ hr;have q:=hloc.symm.trans hσ;simp only [Option.some.injEq,Loc.map.injEq] at q;subst q;have hund : ∀ {σ' : Ids} {S' : Nat → Prop} {w' : World},RelV σ' S' w' undef (.tuple []):=.tuple #[] [] rfl (by simp)
       have hrlt : r' < w.heap.size:=(Array.getElem?_eq_some_iff.1 hh).1;have hEl : es.toList.length = kv.length:=by rw [hE.1]; simp [kvA]
       have hEk : ∀ (i : Nat) x,kv[i]? = some x → ∃ e,es.toList[i]? = some e∧e.key = .int k0 x.1∧RelV σ S w e.val x.2:=fun i x hx => by
        obtain ⟨e,q1,q2,q3⟩:=hE.2 i (.int k0 x.1,x.2) (by simp [kvA,hx])
        exact ⟨e,q1,q2,q3⟩
       have h1:=findNow_none (k:=k0) (kd:=k0) (n:=n) es.toList kv 0 hEl (fun i x hx => by obtain ⟨e,q1,q2⟩:=hEk i x hx; exact ⟨e,q1,q2.1⟩) hget
       have hrun : (Instr.mapUpdate t (.map (some r')) (.int k0 n) (a.eval x)).run P w = .ok () { w with heap:=w.heap.setIfInBounds r' (.map (es.push { key:=.int k0 n,val:=a.eval x,born:=clock }) (clock + 1)) }:=by
        unfold Instr.mapUpdate;simp only [Sem.run_bind,run_underlying ht,Result.andThen_ok,run_getObj_map' hh,run_checkKey_int hkt,Instr.findKey,run_underlying hkt,h1,Sem.run_pure,run_setObj_map' hh]
       refine ⟨undef,{ w with heap:=w.heap.setIfInBounds r' (.map (es.push { key:=.int k0 n,val:=a.eval x,born:=clock }) (clock + 1)) },.inr ⟨by rcases ho with ho | ho <;> simp only [execOp,ho,hem,hek,Sem.run_bind,hrun,Result.andThen_ok,Sem.run_pure],rfl⟩,?_⟩
       obtain ⟨q1,q2⟩:=hR.turn (w':={ w with heap:=w.heap.setIfInBounds r' (.map (es.push { key:=.int k0 n,val:=a.eval x,born:=clock }) (clock + 1)) }) (row:=.mpV k0 (kv ++ [(n,v)])) hr (has_map hloc)
        (fun b hb => Array.getElem?_setIfInBounds_ne (Ne.symm hb)) ⟨rfl,rfl,rfl,by simp⟩ (fun hkeep=>by
         refine ⟨r',es.push { key:=.int k0 n,val:=a.eval x,born:=clock },clock + 1,hloc,by simp [hrlt],?_,?_,?_,fun i y hy => ?_⟩
         ·simp only [Array.toList_push,List.map_append,List.map_cons,List.map_nil]
          refine List.nodup_append.2 ⟨hnd,by simp,fun b hb c hc => ?_⟩
          obtain ⟨e,he,rfl⟩:=List.mem_map.1 hb;have:=hcl e he;rw [List.mem_singleton.1 hc]; omega
         ·intro e he
          simp only [Array.toList_push,List.mem_append,List.mem_singleton] at he;rcases he with he | rfl
          ·have:=hcl e he; omega
          ·simp
         ·simp [hEl,kvA]
         ·rw [show kvA k0 (kv ++ [(n,v)]) = kvA k0 kv ++ [(.int k0 n,v)] by simp [kvA]] at hy
          have hkl : (kvA k0 kv).length = kv.length:=by simp [kvA]
          by_cases hi : i < kv.length
          ·rw [List.getElem?_append_left (by omega)] at hy
           obtain ⟨e,q1,q2,q3⟩:=hE.2 i y hy;refine ⟨e,?_,q2,q3.mono (Ids.le_refl σ) (fun _ h => h) hkeep⟩
           rw [Array.toList_push,List.getElem?_append_left (by rw [hEl]; exact hi)]; exact q1
          ·have hi' : i = kv.length:=by
            have:=(List.getElem?_eq_some_iff.1 hy).1;simp [hkl] at this; omega
           subst hi';rw [List.getElem?_append_right (by omega),hkl] at hy
           simp at hy; subst hy
           refine ⟨{ key:=.int k0 n,val:=a.eval x,born:=clock },?_,rfl,hvx.mono (Ids.le_refl σ) (fun _ h => h) hkeep⟩
           rw [Array.toList_push,List.getElem?_append_right (by rw [hEl]; omega),hEl]; simp)
       exact ⟨σ,S,hund,q1,q2,fun _ _ => rfl⟩
     ·cases h
    ·cases h
   ·cases h
  ·cases h
 ·cases h
theorem leftE_none (es : Array MapEntry) : leftE es #[] = es.toList:=by
 unfold leftE;exact List.filter_eq_self.2 fun e _ => by simp
theorem rangeI_core {t kt et : TypeId} {m : Operand} {id mb' : Nat} {r0 : Row} {left left' : List (AV × AV)} {es : Array MapEntry} {clock : Nat} (hR : RowsOk P Γ Own σ S w R) (hF : Free Own σ w s)
  (ho : o.op = .range t m) (ht : P.underlying t = some (.map kt et)) (hr : R id = some r0) (hem : a.eval m = .map (some mb')) (hloc : σ id = some (.map mb')) (hh : w.heap[mb']? = some (.map es clock)) (hnd : (es.toList.map (·.born)).Nodup)
  (hcl : ∀ e ∈ es.toList,e.born < clock) (hp : left.Perm left') (hE : EntsV σ S w es.toList left') :
  ∃ v w',OpRuns P a o w v w'∧Step P Γ Own σ S w R s ⟨.itT s,[(s,some (.iter left none)),(id,none)],[id]⟩ v w':=by
 have hmlt : mb' < w.heap.size:=(Array.getElem?_eq_some_iff.1 hh).1;have hrun : (Instr.range t (.map (some mb'))).run P w = .ok (.pointer (some ⟨w.heap.size,0,none⟩)) (w.alloc (.mapIter (some mb') clock #[] clock)):=by
  simp [Instr.range,run_underlying ht,run_getObj_map' hh]
 refine ⟨.pointer (some ⟨w.heap.size,0,none⟩),w.alloc (.mapIter (some mb') clock #[] clock),.inl (by simp only [execOp,ho,hem,Sem.run_bind,hrun,Result.andThen_ok,Sem.run_pure]),?_⟩
 have hle : σ.le (σ.set s (.iter w.heap.size mb')):=Ids.le_set hF.head;have hold : ∀ b,b < w.heap.size → (w.alloc (.mapIter (some mb') clock #[] clock)).heap[b]? = w.heap[b]?:=fun b hb => heap_alloc_old w _ b hb
 have hkeep : ∀ b,S b → (w.alloc (.mapIter (some mb') clock #[] clock)).heap[b]? = w.heap[b]?:=fun b hb => hold b (hR.old b hb)
 have hS:=Same.alloc w (.mapIter (some mb') clock #[] clock);have hR' : ∀ j r,j ≠ s → updR [(s,some (.iter left none)),(id,none)] R j = some r → R j = some r∧j ≠ id:=fun j r hne hi => by
  simp only [updR,Ne.symm hne,if_false] at hi;split at hi
  ·cases hi
  ·rename_i hj; exact ⟨hi,Ne.symm hj⟩
 have hset : (σ.set s (.iter w.heap.size mb')) s = some (.iter w.heap.size mb'):=Ids.set_self ..;have hsb : ∀ b,Loc.has ((σ.set s (.iter w.heap.size mb')) s) b → b = w.heap.size ∨ b = mb':=by
  rintro b ⟨l,hl,hb⟩;rw [hset] at hl; cases hl
  simpa [Loc.blocks] using hb
 refine ⟨σ.set s (.iter w.heap.size mb'),S,.itV s _ mb' hset,⟨fun j r hi => ?_,fun j r b hi hb => ?_,fun j j' r r' b hi hi' hb hb' => ?_,fun b hb => Nat.lt_of_lt_of_le (hR.old b hb) hS.size⟩,
  ⟨hle,fun _ h => h,hkeep,fun b hb => hold b ?_,hS,fun _ h => .inl h⟩,set_outside⟩
 ·by_cases hne : j = s
  ·subst hne
   simp [updR] at hi;subst hi;refine ⟨w.heap.size,mb',es,clock,clock,clock,#[],left',hset,by omega,heap_alloc_new w _,by rw [hold mb' hmlt]; exact hh,hnd,hcl,Nat.le_refl _,Nat.le_refl _,hp,?_,by simp⟩
   rw [leftE_none];exact hE.stay hle (fun _ h => h) (Stay.heap hkeep)
  ·obtain ⟨hi',_⟩:=hR' j r hne hi
   exact (hR.ok j r hi').mono hle (fun _ h => h) hkeep hS.size fun b hb => hold b (hR.lt hi' hb)
 ·by_cases hne : j = s
  ·subst hne
   rcases hsb b hb with rfl | rfl
   ·exact ⟨fun hb=>Nat.lt_irrefl _ (hR.old _ hb),hF.own _ (Nat.le_refl _)⟩
   ·exact hR.apart id _ _ hr (has_map hloc)
  ·rw [Ids.set_other hne] at hb
   exact hR.apart j r b (hR' j r hne hi).1 hb
 ·by_cases hne : j = s
  ·by_cases hne' : j' = s
   ·rw [hne,hne']
   ·subst hne
    rw [Ids.set_other hne'] at hb';obtain ⟨g1,g2⟩:=hR' j' r' hne' hi';rcases hsb b hb with rfl | rfl
    ·exact absurd (hR.lt g1 hb') (Nat.lt_irrefl _)
    ·exact absurd (hR.inj j' id r' _ _ g1 hr hb' (has_map hloc)) g2
  ·by_cases hne' : j' = s
   ·subst hne'
    rw [Ids.set_other hne] at hb;obtain ⟨g1,g2⟩:=hR' j r hne hi;rcases hsb b hb' with rfl | rfl
    ·exact absurd (hR.lt g1 hb) (Nat.lt_irrefl _)
    ·exact absurd (hR.inj j id r _ _ g1 hr hb (has_map hloc)) g2
   ·rw [Ids.set_other hne] at hb
    rw [Ids.set_other hne'] at hb';exact hR.inj j j' r r' b (hR' j r hne hi).1 (hR' j' r' hne' hi').1 hb hb'
 ·exact Nat.lt_of_not_le fun hle' => hb (hF.own b hle')
theorem rangeI_sound {t kt et : TypeId} {m : Operand} {am : AOpd} {t1 : Option TypeId} (hT : TmpsOk σ S w T a) (hR : RowsOk P Γ Own σ S w R) (hF : Free Own σ w s)
  (ho : o.op = .range t m) (ht : P.underlying t = some (.map kt et)) (hm : opd P t1 m = some am) (h : evRangeI s (getO T) R am = some e) : ∃ v w',OpRuns P a o w v w'∧Step P Γ Own σ S w R s e v w':=by
 unfold evRangeI at h;split at h
 ·rename_i id hgm
  have hvm:=Yp hT hm hgm;generalize hem : a.eval m = vm at hvm;cases hvm with
  | imm hv => cases hv
  | mapp id mb hσ =>
   split at h
   ·rename_i k kv hr
    split at h
    ·cases h
    ·simp only [Option.some.injEq] at h; subst h
     obtain ⟨mb',es,clock,hloc,hh,hnd,hcl,hE⟩:=hR.ok id _ hr;have q:=hloc.symm.trans hσ;simp only [Option.some.injEq,Loc.map.injEq] at q;subst q;exact rangeI_core hR hF ho ht hr hem hloc hh hnd hcl (.refl _) hE
   ·rename_i ks keys vals hr
    split at h
    ·cases h
    ·simp only [Option.some.injEq] at h; subst h
     obtain ⟨mb',es,clock,hloc,hh,hl,keys',vals',hE,hp⟩:=hR.ok id _ hr;have q:=hloc.symm.trans hσ;simp only [Option.some.injEq,Loc.map.injEq] at q;subst q;refine rangeI_core hR hF ho ht hr hem hloc hh hE.bn hE.bc (hp.map _) ⟨by have:=hE.n; have:=hE.m; simp; omega,fun i x hx => ?_⟩
     rw [List.getElem?_map] at hx;cases hz : (keys'.zip vals')[i]? with
     | none => rw [hz] at hx; cases hx
     | some y =>
      rw [hz] at hx; cases hx
      obtain ⟨k1,v1⟩:=y;rw [List.getElem?_zip_eq_some] at hz;obtain ⟨e,q1,q2,q3⟩:=hE.e i _ _ hz.1 hz.2;exact ⟨e,by rw [Array.getElem?_toList]; exact q1,⟨hE.pk _ (List.mem_of_getElem? hz.1),q2⟩,by rw [q3]; exact .imm (RelI.toVal (hE.pv _ (List.mem_of_getElem? hz.2)))⟩
   ·cases h
 ·cases h
theorem find_bornE (e : MapEntry) : ∀ (l : List MapEntry),(l.map (·.born)).Nodup → e ∈ l → l.find? (·.born == e.born) = some e
 | x :: l,hn,he => by
  have hn' : x.born ∉ l.map (·.born)∧(l.map (·.born)).Nodup:=List.nodup_cons.1 hn;rcases List.mem_cons.1 he with rfl | h
  ·simp
  ·have hx : (x.born == e.born) = false:=by
    cases hc : x.born == e.born with
    | false => rfl
    | true => exact absurd (by rw [beq_iff_eq.1 hc]; exact List.mem_map.2 ⟨e,h,rfl⟩) hn'.1
   rw [List.find?_cons,hx];exact find_bornE e l hn'.2 h
theorem KeyV.rel {v : Value} {x : AV} (h : KeyV v x) : RelV σ S w v x:=by
 cases x <;> simp only [KeyV] at h
 ·subst h; exact .imm (.int _ _)
 ·obtain ⟨h1,rfl⟩:=h
  exact .imm (RelI.toVals h1)
theorem entry_sound {it : Operand} {ai : AOpd} {t1 : Option TypeId} (hT : TmpsOk σ S w T a) (hR : RowsOk P Γ Own σ S w R)
  (ho : o.op = .entry it) (hi : opd P t1 it = some ai) (h : evEntry (getO T) R ai = some e) : ∃ v w',OpRuns P a o w v w'∧Step P Γ Own σ S w R s e v w':=by
 unfold evEntry at h;split at h
 ·rename_i id hgi
  split at h
  ·rename_i left x hr
   simp only [Option.some.injEq] at h; subst h
   have hvi:=Yp hT hi hgi;generalize hei : a.eval it = vi at hvi;cases hvi with
   | imm hv => cases hv
   | itV id r m hσ =>
    obtain ⟨r',m',es,clock,since,c0,seen,left',hloc,hrm,hh,hhm,hnd,hcl,h1,h2,hp,hE,hcur⟩:=hR.ok id _ hr;have q:=hloc.symm.trans hσ;simp only [Option.some.injEq,Loc.iter.injEq] at q;obtain ⟨rfl,rfl⟩:=q;obtain ⟨rfl,e0,q1,q2,q3,q4⟩:=hcur x rfl;have hf : es.find? (·.born == e0.born) = some e0:=by rw [← Array.find?_toList]; exact find_bornE e0 es.toList hnd q1
    refine fin_pure hR (sem:=Instr.entry (a.eval it)) (by simp [execOp,ho]) (u:=.tuple #[e0.key,e0.val]) ?_ (.tuple _ _ rfl fun i u c hu hc => ?_)
    ·rw [hei]
     simp only [Instr.entry,getObj,Sem.run_bind,Sem.run,hh,hhm,Result.andThen,q2,bne_self_eq_false,Bool.false_eq_true,if_false,hf];rfl
    ·match i with
     | 0 => simp at hu hc; subst hu hc; exact KeyV.rel q3
     | 1 => simp at hu hc; subst hu hc; exact q4
     | i + 2 => simp at hu
  ·cases h
 ·cases h
theorem leftE_push {es : Array MapEntry} {seen : Array Nat} (hnd : (es.toList.map (·.born)).Nodup) {i : Nat} {e : MapEntry} (he : (leftE es seen)[i]? = some e) : leftE es (seen.push e.born) = (leftE es seen).eraseIdx i:=by
 have h1 : leftE es (seen.push e.born) = (leftE es seen).filter fun x=>x.born != e.born:=by
  unfold leftE;rw [List.filter_filter];apply List.filter_congr;intro x _;simp only [Array.contains_push,Bool.not_or];cases hx : x.born == e.born <;> simp [bne,hx,Bool.and_comm]
 have hsub : ((leftE es seen).map (·.born)).Nodup:=hnd.sublist ((List.filter_sublist (l:=es.toList)).map _);rw [h1];generalize leftE es seen = L at he hsub;clear h1 hnd;induction L generalizing i with
 | nil => simp at he
 | cons x L ih =>
  have hn' : x.born ∉ L.map (·.born)∧(L.map (·.born)).Nodup:=List.nodup_cons.1 hsub
  match i with
  | 0 =>
   simp at he; subst he
   simp only [List.eraseIdx_cons_zero,List.filter_cons,bne_self_eq_false,Bool.false_eq_true,if_false];refine List.filter_eq_self.2 fun y hy => ?_
   have : y.born ≠ x.born:=fun h=>hn'.1 (by rw [← h]; exact List.mem_map.2 ⟨y,hy,rfl⟩)
   simpa using this
  | i + 1 =>
   simp at he;have hx : x.born ≠ e.born:=fun h=>hn'.1 (by rw [h]; exact List.mem_map.2 ⟨e,List.mem_of_getElem? he,rfl⟩)
   simp only [List.eraseIdx_cons_succ,List.filter_cons];rw [if_pos (by simpa using hx),ih he hn'.2]
theorem next_test_falseE (seen : Array Nat) (es : Array MapEntry) (since c0 : Nat) (hold : ∀ x ∈ es.toList,x.born < since) (hsc : since≤c0) :
  (!seen.isEmpty && !es.isEmpty && es.all (fun x=>decide (x.born ≥ c0))) = false:=by
 cases he : es.isEmpty with
 | true => simp
 | false =>
  have hall : es.all (fun x=>decide (x.born ≥ c0)) = false:=by
   rw [Bool.eq_false_iff];intro h;rw [Array.all_eq_true_iff_forall_mem] at h;have h0 : 0 < es.size:=by
    rcases Nat.eq_zero_or_pos es.size with h0 | h0
    ·simp [Array.isEmpty,h0] at he
    ·exact h0
   have hm : es[0] ∈ es:=Array.getElem_mem h0;have h1:=h _ hm;have h2:=hold es[0] (by simp)
   simp at h1;omega
  simp [hall]
theorem run_nextM {r m since c0 clock : Nat} {seen : Array Nat} {es : Array MapEntry} (ty : TypeId) (hr : w.heap[r]? = some (.mapIter (some m) since seen c0)) (hm : w.heap[m]? = some (.map es clock))
  (hold : ∀ x ∈ es.toList,x.born < since) (hsc : since≤c0) :
  (leftE es seen = []∧(Instr.next (.pointer (some ⟨r,0,none⟩)) false ty).run P w = .ok (.tuple #[.bool false]) w) ∨
  ∃ (i : Nat) (e : MapEntry) (w1 : World),(leftE es seen)[i]? = some e∧(w1 = w ∨ w1 = w.drew) ∧
   (Instr.next (.pointer (some ⟨r,0,none⟩)) false ty).run P w = .ok (.tuple #[.bool true,e.key,e.val]) { w1 with heap:=w1.heap.setIfInBounds r (.mapIter (some m) since (seen.push e.born) clock) }:=by
 simp only [Instr.next,getObj,Sem.run_bind,Sem.run,hr,hm,Result.andThen,next_test_falseE seen es since c0 hold hsc,Bool.false_eq_true,if_false];have hL : (Array.filter (fun e=>!seen.contains e.born) es).toList = leftE es seen:=by simp [leftE]
 have hmem : ∀ x ∈ (Array.filter (fun e=>!seen.contains e.born) es).toList,x.born < since:=fun x hx => hold x (by simp at hx ⊢; exact hx.1)
 rw [← hL];generalize Array.filter (fun e=>!seen.contains e.born) es = L at hmem ⊢
 have e1 : L.filter (fun x=>decide (x.born < since)) = L:=Array.filter_eq_self.2 (fun x hx => by simpa using hmem x (by simpa using hx))
 have e2 : L.filter (fun x=>decide (x.born ≥ since)) = #[]:=by
  rw [Array.filter_eq_empty_iff];intro x hx;have:=hmem x (by simpa using hx)
  simp;omega
 simp only [e1,e2,Array.append_empty];by_cases h0 : L.size = 0
 ·left
  have : L = #[]:=Array.eq_empty_of_size_eq_zero h0;subst this;refine ⟨rfl,?_⟩;simp [choose,Sem.run,Question.forced]
 ·right
  have hne : L.isEmpty = false:=by simp [Array.isEmpty,h0]
  simp only [hne,Bool.false_eq_true,if_false,Array.empty_append,Array.size_map];have hch : ∃ (j : Nat) (w1 : World),j < L.size∧(w1 = w ∨ w1 = w.drew)∧(choose (Question.mapNext L.size)).run P w = .ok j w1:=by
   by_cases hf : L.size≤1
   ·exact ⟨0,w,by omega,.inl rfl,by simp [choose,Sem.run,Question.forced,hf]⟩
   ·exact ⟨_,w.drew,Nat.mod_lt _ (by omega),.inr rfl,by
     simp only [choose,Sem.run,Question.forced,decide_eq_true_eq,hf,if_false,Question.cut];rfl⟩
  obtain ⟨j,w1,hj,hal,hrun⟩:=hch;have hr1 : w1.heap[r]? = some (.mapIter (some m) since seen c0):=by rcases hal with rfl | rfl <;> exact hr
  refine ⟨j,L[j],w1,by simp [hj],hal,?_⟩
  have hset : ∀ (o' : Obj),(setObj r o').run P w1 = .ok () { w1 with heap:=w1.heap.setIfInBounds r o' }:=fun o' => by
   simp [setObj,Sem.run,hr1]
  simp only [hrun,Array.getElem?_map,Array.getElem?_eq_getElem hj,Option.map_some,Sem.run_bind,hset,Result.andThen];rfl
theorem next_sound {id r m : Nat} {left : List (AV × AV)} {cur : Option (AV × AV)} (hR : RowsOk P Γ Own σ S w R) (hid : R id = some (.iter left cur)) (hσ : σ id = some (.iter r m)) (ty : TypeId) :
  ∃ c ∈ wayIt left,∃ vs w',(Instr.next (.pointer (some ⟨r,0,none⟩)) false ty).run P w = .ok (.tuple vs) w'∧vs[0]? = some (.bool c.2.isSome) ∧
   Step P Γ Own σ S w R s ⟨.any,[(id,some (.iter c.1 c.2))],[id]⟩ (.tuple vs) w':=by
 obtain ⟨r',m',es,clock,since,c0,seen,left',hloc,hrm,hh,hhm,hnd,hcl,h1,h2,hp,hE,hcur⟩:=hR.ok id _ hid;have q:=hloc.symm.trans hσ;simp only [Option.some.injEq,Loc.iter.injEq] at q;obtain ⟨rfl,rfl⟩:=q;have hhas : Loc.has (σ id) r':=⟨_,hloc,by simp [Loc.blocks]⟩
 have hrlt : r' < w.heap.size:=(Array.getElem?_eq_some_iff.1 hh).1;rcases run_nextM (P:=P) ty hh hhm hcl h1 with ⟨hL,hrun⟩ | ⟨i,e,w1,hi,hw1,hrun⟩
 ·have hl0 : left = []:=by
   have:=hE.1; rw [hL] at this
   have h3:=hp.length_eq;simp at this;exact List.eq_nil_of_length_eq_zero (by omega)
  subst hl0;refine ⟨([],none),by simp [wayIt],#[.bool false],w,hrun,rfl,?_⟩
  obtain ⟨q1,q2⟩:=hR.turn (w':=w) (row:=.iter [] none) hid hhas (fun _ _ => rfl) (Same.refl w) (fun _=>⟨r',m',es,clock,since,c0,seen,left',hloc,hrm,hh,hhm,hnd,hcl,h1,h2,hp,hE,by simp⟩)
  exact ⟨σ,S,.imm (.any _),q1,q2,fun _ _ => rfl⟩
 ·have hilt' : i < left'.length:=by rw [← hE.1]; exact (List.getElem?_eq_some_iff.1 hi).1
  have hx:=hE.2 i _ (List.getElem?_eq_getElem hilt');obtain ⟨e',q1,q2,q3⟩:=hx;rw [hi] at q1; cases q1
  obtain ⟨i0,hi0⟩:=List.mem_iff_getElem?.1 (hp.mem_iff.2 (List.getElem_mem hilt'));have hp':=perm_erase hp hi0 (List.getElem?_eq_getElem hilt');have hway : (left.eraseIdx i0,some left'[i]) ∈ wayIt left:=by
   generalize left'[i] = y0 at hi0
   match left,hi0 with
   | y :: l,hi0 =>
    simp only [wayIt,List.mem_map];exact ⟨(y0,i0),by rw [List.mem_zipIdx_iff_getElem?]; simpa using hi0,rfl⟩
  refine ⟨_,hway,#[.bool true,e.key,e.val],_,hrun,rfl,?_⟩;have hhp0 : w1.heap = w.heap:=hw1.elim (fun h=>by rw [h]) (fun h=>by rw [h]; rfl)
  have hhp : ∀ b : Nat,w1.heap[b]? = w.heap[b]?:=fun b=>by rw [hhp0]
  have hsz : w1.heap.size = w.heap.size:=by rw [hhp0]
  have hsame : Same w w1:=hw1.elim (fun h=>by rw [h]; exact Same.refl w) (fun h=>by rw [h]; exact Same.drew w)
  have hoth : ∀ b,b ≠ r' → ({ w1 with heap:=w1.heap.setIfInBounds r' (.mapIter (some m') since (seen.push e.born) clock) } : World).heap[b]? = w.heap[b]?:=fun b hb => by
   show (w1.heap.setIfInBounds r' _)[b]? = _
   rw [Array.getElem?_setIfInBounds_ne (Ne.symm hb)]; exact hhp b
  obtain ⟨p1,p2⟩:=hR.turn (w':={ w1 with heap:=w1.heap.setIfInBounds r' (.mapIter (some m') since (seen.push e.born) clock) }) (row:=.iter (left.eraseIdx i0) (some left'[i])) hid hhas hoth
   (hsame.trans ⟨rfl,rfl,rfl,by simp⟩) (fun hkeep=>by
    refine ⟨r',m',es,clock,since,clock,seen.push e.born,left'.eraseIdx i,hloc,hrm,by simp [hsz,hrlt],by rw [hoth m' (Ne.symm hrm)]; exact hhm,hnd,hcl,h2,h2,hp',?_,fun x hx => ?_⟩
    ·rw [leftE_push hnd hi]
     refine ⟨by rw [List.length_eraseIdx,List.length_eraseIdx,hE.1],fun j x hx => ?_⟩
     rw [List.getElem?_eraseIdx] at hx ⊢;have:=hE.2;split at hx
     ·rename_i hj
      obtain ⟨e2,g1,g2⟩:=this j x hx;exact ⟨e2,by rw [if_pos hj]; exact g1,g2.1,g2.2.mono (Ids.le_refl σ) (fun _ h => h) hkeep⟩
     ·rename_i hj
      obtain ⟨e2,g1,g2⟩:=this (j + 1) x hx;exact ⟨e2,by rw [if_neg hj]; exact g1,g2.1,g2.2.mono (Ids.le_refl σ) (fun _ h => h) hkeep⟩
    ·simp only [Option.some.injEq] at hx
     subst hx;refine ⟨rfl,e,?_,by simp,q2,q3.mono (Ids.le_refl σ) (fun _ h => h) hkeep⟩
     have:=List.mem_of_getElem? hi;unfold leftE at this;exact (List.mem_filter.1 this).1)
  exact ⟨σ,S,.imm (.any _),p1,p2,fun _ _ => rfl⟩
theorem findIdx_toL (xs : Array MapEntry) (p : MapEntry → Bool) : xs.findIdx? p = xs.toList.findIdx? p:=by
 cases xs;simp
theorem findIdx_stamp : ∀ {l : List MapEntry} {j : Nat} {e0 : MapEntry},(l.map (·.born)).Nodup → l[j]? = some e0 → l.findIdx? (fun e=>((e.born : Nat) : Int) == ((e0.born : Nat) : Int)) = some j
 | [],_,_,_,h => by simp at h
 | x :: l,0,e0,_,h => by
  simp at h; subst h
  simp [List.findIdx?_cons]
 | x :: l,j + 1,e0,hn,h => by
  have hn' : x.born ∉ l.map (·.born)∧(l.map (·.born)).Nodup:=List.nodup_cons.1 hn;have h' : l[j]? = some e0:=by simpa using h
  have hx : ((x.born : Nat) : Int) ≠ ((e0.born : Nat) : Int):=fun q=>hn'.1 (by rw [Int.ofNat.inj q]; exact List.mem_map.2 ⟨e0,List.mem_of_getElem? h',rfl⟩)
  rw [List.findIdx?_cons,show (((x.born : Nat) : Int) == ((e0.born : Nat) : Int)) = false by simpa using hx,findIdx_stamp hn'.2 h']
  rfl
theorem mapEnt_sound {t kt et : TypeId} {ks : List Bool} {z : AV} {m k : Operand} {am ak : AOpd} {t1 t2 : Option TypeId} (hT : TmpsOk σ S w T a) (hR : RowsOk P Γ Own σ S w R) (hF : Free Own σ w s)
  (ho : o.op = .mapEntry t m k) (ht : P.underlying t = some (.map kt et)) (hkt : keysOf P kt = some ks) (hz : zeroOf P et = some z)
  (hm : opd P t1 m = some am) (hk : opd P t2 k = some ak) (h : evMapEnt s (getO T) R ks z am ak = some e) : ∃ v w',OpRuns P a o w v w'∧Step P Γ Own σ S w R s e v w':=by
 unfold zeroOf at hz;split at hz
 ·rename_i i hi
  split at hz
  ·rename_i zv hzv
   split at hz
   ·unfold evMapEnt at h
    split at h
    ·rename_i id cs hgm hgk
     split at h
     ·rename_i hc
      obtain ⟨hzp,hcs,hok,hids⟩:=hc;split at h
      ·rename_i k0 keys vals hr
       split at h
       ·rename_i hk0
        subst hk0;have hvm:=Yp hT hm hgm;have hek:=toVals_inv hcs (Yp hT hk hgk);generalize hem : a.eval m = vm at hvm;cases hvm with
        | imm hv => cases hv
        | mapp id r hσ =>
         obtain ⟨r',es,clock,hloc,hh,hE⟩:=hR.ok id _ hr;have q:=hloc.symm.trans hσ;simp only [Option.some.injEq,Loc.map.injEq] at q;subst q;have hrlt : r' < w.heap.size:=(Array.getElem?_eq_some_iff.1 hh).1;have hck : (Instr.checkKey false 10000 kt (.agg (cs.map AV.toVal).toArray)).run P w = .ok () w :=
          run_checkKey_struct (σ:=σ) (S:=S) hkt (cs:=cs) (by simp) (okKey_len hok) (fun i v c hv hc => by
           have hp:=List.all_eq_true.1 hcs c (List.mem_of_getElem? hc);simp [hc] at hv; subst hv
           exact .imm (RelI.toVal hp)) _
         have hfin : ∀ (es' : Array MapEntry) (clock' n : Nat) (keys1 : List (List AV)) (vals1 : List AV) (i1 : Nat) (u : Value) (x : AV),(Instr.mapEntry t (.map (some r')) (.agg (cs.map AV.toVal).toArray)).run P w = .ok (.tuple #[u,goInt n]) { w with heap:=w.heap.setIfInBounds r' (.map es' clock') } →
           EntE k0 es' clock' keys1 vals1 i1 n → RelI S w u x → ∃ v' w',OpRuns P a o w v' w'∧Step P Γ Own σ S w R s ⟨.tuple [x,.stampT s],[(id,some (.mpE k0 keys1 vals1 i1 s))],[id]⟩ v' w':=by
          intro es' clock' n keys1 vals1 i1 u x hrun hent hux;refine ⟨.tuple #[u,goInt n],{ w with heap:=w.heap.setIfInBounds r' (.map es' clock') },.inl (by simp only [execOp,ho,hem,hek,Sem.run_bind,hrun,Result.andThen_ok,Sem.run_pure]),?_⟩
          obtain ⟨p1,p2⟩:=hR.stamp n hF.head;have hloc' : (σ.set s (.stamp n)) id = some (.map r'):=by rw [Ids.set_other hids]; exact hloc
          obtain ⟨q1,q2⟩:=p1.turn (w':={ w with heap:=w.heap.setIfInBounds r' (.map es' clock') }) (row:=.mpE k0 keys1 vals1 i1 s) hr (has_map hloc')
           (fun b hb => Array.getElem?_setIfInBounds_ne (Ne.symm hb)) ⟨rfl,rfl,rfl,by simp⟩ (fun hkeep=>⟨r',es',clock',n,hloc',by simp [hrlt],Ids.set_self ..,hent⟩)
          have hx:=p2.trans q2;refine ⟨_,S,.tuple _ _ rfl fun i v c hi hc => ?_,q1,hx,set_outside⟩
          match i with
          | 0 => simp at hi hc; subst hi hc; exact (RelV.imm hux).ext hx
          | 1 => simp at hi hc; subst hi hc; exact .stampV s n (Ids.set_self ..)
          | i + 2 => simp at hi
         split at h
         ·rename_i i hfi
          split at h
          ·rename_i v hv
           simp only [Option.some.injEq] at h; subst h
           obtain ⟨keys',vals',j,e0,u,hE',hp,hf',hki,hvi,hkj,hvj,h3,g2,g3,hpl⟩:=hE.found hok hfi;obtain ⟨i',e1,h1,_,h3',h4⟩:=(hE'.spec (P:=P) (w:=w) hkt hcs).2 j hf';rw [Nat.zero_add] at h1; subst h1
           rw [Array.getElem?_toList,h3] at h3'; cases h3'
           rw [hv] at hvi; cases hvi
           have hstay : (Instr.keyThatStays e0.key (.agg (cs.map AV.toVal).toArray)).run P w = .ok (.agg (cs.map AV.toVal).toArray) w:=by
            unfold Instr.keyThatStays;rw [g2,sameBits_toVals (n:=9999) hcs];simp
           have hset : vals'.set j v = vals':=List.ext_getElem? fun q=>by
            by_cases hq : j = q
            ·subst hq; rw [List.getElem?_set_self (List.getElem?_eq_some_iff.1 hvj).1,hvj]
            ·rw [List.getElem?_set_ne hq]
           have hE2:=hE'.set hkj h3 (es1:=es.modify j fun e=>{ e with key:=.agg (cs.map AV.toVal).toArray }) (by simp) (e1:={ e0 with key:=.agg (cs.map AV.toVal).toArray }) (by simp [Array.getElem?_modify,h3]) (fun i hi => by simp [Array.getElem?_modify,Ne.symm hi]) rfl g3 rfl hpl
           rw [hset] at hE2;refine hfin (es.modify j fun e=>{ e with key:=.agg (cs.map AV.toVal).toArray }) clock e0.born keys vals i e0.val v ?_ ⟨hE.1,keys',vals',j,{ e0 with key:=.agg (cs.map AV.toVal).toArray },cs,hE2,hp,hki,hkj,by simp [Array.getElem?_modify,h3],rfl⟩ (by rw [g3]; exact RelI.toVal hpl)
           unfold Instr.mapEntry;simp only [Sem.run_bind,run_underlying ht,Result.andThen_ok,run_getObj_map' hh,hck,run_findKey_struct hkt,h4,Sem.run_pure,h3,Option.map_some,Option.getD_some,hstay,run_setObj_map' hh]
          ·cases h
         ·rename_i hfi
          simp only [Option.some.injEq] at h; subst h
          obtain ⟨keys',vals',hE',hp,hf',hn'⟩:=hE.not hok hfi;have h4:=(hE'.spec (P:=P) (w:=w) hkt hcs).1 hf';have hzz : zv = z.toVal:=toVal_inv (σ:=σ) (S:=S) (w:=w) hzp (.imm (ofVal_rel hz));have hE2:=hE'.push (e1:={ key:=.agg (cs.map AV.toVal).toArray,val:=zv,born:=clock }) hn' hcs hok rfl hzz rfl hzp;refine hfin (es.push { key:=.agg (cs.map AV.toVal).toArray,val:=zv,born:=clock }) (clock + 1) clock (keys ++ [cs]) (vals ++ [z]) keys.length zv z ?_
           ⟨by simp [hE.1],_,_,keys'.length,{ key:=.agg (cs.map AV.toVal).toArray,val:=zv,born:=clock },cs,hE2,?_,by simp,by simp,by rw [← hE'.n]; simp,rfl⟩ (ofVal_rel hz)
          ·unfold Instr.mapEntry
           simp only [Sem.run_bind,run_underlying ht,Result.andThen_ok,run_getObj_map' hh,hck,run_findKey_struct hkt,h4,Sem.run_pure,zeroValue,typeInfo,run_program,hi,hzv,run_setObj_map' hh]
          ·rw [zip_snoc _ _ hE.1,zip_snoc _ _ hE'.m.symm]; exact hp.append_right _
         ·cases h
       ·cases h
      ·cases h
     ·cases h
    ·cases h
   ·cases hz
  ·cases hz
 ·cases hz
theorem entSt_sound {t : TypeId} {m st x : Operand} {am as ax : AOpd} {t1 t2 t3 : Option TypeId} (hT : TmpsOk σ S w T a) (hR : RowsOk P Γ Own σ S w R)
  (ho : o.op = .entryStore t m st x) (hm : opd P t1 m = some am) (hs : opd P t2 st = some as) (hx : opd P t3 x = some ax) (h : evEntSt (getO T) R am as ax = some e) : ∃ v w',OpRuns P a o w v w'∧Step P Γ Own σ S w R s e v w':=by
 unfold evEntSt at h;split at h
 ·rename_i id sn v hgm hgs hgx
  split at h
  ·rename_i hpl
   split at h
   ·rename_i ks keys vals i s' hr
    split at h
    ·rename_i hss
     subst hss;simp only [Option.some.injEq] at h; subst h
     have hvm:=Yp hT hm hgm;have hvs:=Yp hT hs hgs;have hvx:=toVal_inv hpl (Yp hT hx hgx);generalize hem : a.eval m = vm at hvm;generalize hes : a.eval st = vs at hvs;cases hvs with
     | imm hv => cases hv
     | stampV _ n hn =>
      cases hvm with
      | imm hv => cases hv
      | mapp id r hσ =>
       obtain ⟨r',es,clock,n',hloc,hh,hn',hl,keys',vals',j,e0,k0,hE,hp,hki,hkj,hej,hb⟩:=hR.ok id _ hr;have q:=hloc.symm.trans hσ;simp only [Option.some.injEq,Loc.map.injEq] at q;subst q;have q:=hn'.symm.trans hn;simp only [Option.some.injEq,Loc.stamp.injEq] at q;subst q;have hrlt : r' < w.heap.size:=(Array.getElem?_eq_some_iff.1 hh).1;have hidx : es.findIdx? (fun e=>((e.born : Nat) : Int) == ((n' : Nat) : Int)) = some j:=by
        rw [← hb,findIdx_toL];exact findIdx_stamp hE.bn (by rw [Array.getElem?_toList]; exact hej)
       have hrun : (Instr.entryStore t (.map (some r')) (goInt n') (a.eval x)).run P w = .ok () { w with heap:=w.heap.setIfInBounds r' (.map (es.modify j fun e=>{ e with val:=a.eval x }) clock) }:=by
        unfold Instr.entryStore;simp [Sem.run_bind,run_getObj_map' hh,Result.andThen_ok,asInt,asIntOf,goInt,hidx,run_setObj_map' hh]
       have hvj : vals'[j]? = some vals'[j]!:=by
        have h1:=(List.getElem?_eq_some_iff.1 hkj).1;have h2 : j < vals'.length:=by have:=hE.m; omega
        rw [List.getElem?_eq_getElem h2,List.getElem!_eq_getElem?_getD,List.getElem?_eq_getElem h2]; rfl
       have hvi : vals[i]? = some vals'[j]!:=by
        have hm' : (k0,vals'[j]!) ∈ keys.zip vals:=hp.mem_iff.2 (List.mem_of_getElem? (zip_at hkj hvj));obtain ⟨i2,hi2⟩:=List.mem_iff_getElem?.1 hm';rw [List.getElem?_zip_eq_some] at hi2;have hnk : keys.Nodup:=by
         have h1:=hp.map (·.1);rw [zip_fst hl,zip_fst hE.m.symm] at h1;exact h1.nodup_iff.2 hE.nd
        have : i2 = i:=(List.getElem?_inj (List.getElem?_eq_some_iff.1 hi2.1).1 hnk).1 (hi2.1.trans hki.symm);subst this;exact hi2.2
       have hkey : e0.key = .agg (k0.map AV.toVal).toArray:=by
        obtain ⟨e,q1,q2,_⟩:=hE.e j _ _ hkj hvj;rw [hej] at q1; cases q1
        exact q2
       have hE2:=hE.set hkj hej (es1:=es.modify j fun e=>{ e with val:=a.eval x }) (by simp) (e1:={ e0 with val:=a.eval x }) (by simp [Array.getElem?_modify,hej]) (fun i hi => by simp [Array.getElem?_modify,Ne.symm hi]) hkey hvx rfl hpl
       have hund : ∀ {σ' : Ids} {S' : Nat → Prop} {w' : World},RelV σ' S' w' undef (.tuple []):=.tuple #[] [] rfl (by simp)
       refine ⟨undef,{ w with heap:=w.heap.setIfInBounds r' (.map (es.modify j fun e=>{ e with val:=a.eval x }) clock) },.inr ⟨by simp only [execOp,ho,hem,hes,Sem.run_bind,hrun,Result.andThen_ok,Sem.run_pure],rfl⟩,?_⟩
       obtain ⟨q1,q2⟩:=hR.turn (w':={ w with heap:=w.heap.setIfInBounds r' (.map (es.modify j fun e=>{ e with val:=a.eval x }) clock) }) (row:=.mpS ks keys (vals.set i v)) hr (has_map hloc)
        (fun b hb => Array.getElem?_setIfInBounds_ne (Ne.symm hb)) ⟨rfl,rfl,rfl,by simp⟩ (fun hkeep=>⟨r',_,clock,hloc,by simp [hrlt],EntP.set v hl hp hki hvi hkj hvj hE2⟩)
       exact ⟨σ,S,hund,q1,q2,fun _ _ => rfl⟩
    ·cases h
   ·cases h
  ·cases h
 ·cases h
theorem strB_inv {v : Value} {x : AV} {l : List UInt8} (h : RelV σ S w v x) (hl : strB x = some l) : v = .string ⟨l.toArray⟩:=by
 unfold strB at hl;split at hl
 ·rename_i b
  simp only [Option.some.injEq] at hl; subst hl
  cases h with
  | imm h => cases h; simp
 ·cases hl
theorem strA_rel (l : List UInt8) : RelV σ S w (.string ⟨l.toArray⟩) (strA l):=.imm (.const _)
theorem strLen_sound {t : TypeId} {t1 : Option TypeId} {x : Operand} {ax : AOpd} (hT : TmpsOk σ S w T a) (hR : RowsOk P Γ Own σ S w R)
  (ho : o.op = .call ⟨.builtin .len,#[x],#[t]⟩) (ht : P.underlying t = some .string) (hx : opd P t1 x = some ax) (h : evStrLen (getO T) ax = some e) :
  ∃ v w',OpRuns P a o w v w'∧Step P Γ Own σ S w R s e v w':=by
 unfold evStrLen at h;split at h
 ·rename_i v hg
  split at h
  ·rename_i l hl
   simp only [Option.some.injEq] at h; subst h
   have hv:=strB_inv (Yp hT hx hg) hl;refine ⟨.int .i64 l.length,w,.inl ?_,Step.pure hR (.imm (.int _ _))⟩;simp only [execOp,ho,resolve,invoke,builtin,pure_bind,Sem.run_bind,List.map_toArray,List.map_cons,List.map_nil,hv];rw [run_len_string w t _ _ ht];simp only [Result.andThen_ok,Sem.run_pure];rfl
  ·cases h
 ·cases h
theorem strAt_sound {t : TypeId} {t1 t2 : Option TypeId} {x i : Operand} {ax ai : AOpd} (hT : TmpsOk σ S w T a) (hR : RowsOk P Γ Own σ S w R)
  (ho : o.op = .index t x i) (ht : P.underlying t = some .string) (hx : opd P t1 x = some ax) (hi : opd P t2 i = some ai) (h : evStrAt (getO T) ax ai = some e) :
  ∃ v w',OpRuns P a o w v w'∧Step P Γ Own σ S w R s e v w':=by
 unfold evStrAt at h;split at h
 ·rename_i v k n hg hgi
  split at h
  ·rename_i l hl
   split at h
   ·rename_i hn
    simp only [Option.some.injEq] at h; subst h
    have hv:=strB_inv (Yp hT hx hg) hl;have hv2:=(Yp hT hi hgi).int_inv;refine fin_pure hR (sem:=Instr.index t (a.eval x) (a.eval i)) (by simp [execOp,ho]) (u:=.int .u8 ((l.getD n.toNat 0).toNat : Int)) ?_ (.imm (.int _ _))
    rw [hv,hv2,run_index_string w t _ k n ht,dif_pos ⟨hn.1,by simpa [ByteArray.size] using hn.2⟩]
    have hlt : n.toNat < l.length:=by omega
    simp [ByteArray.getElem_eq_getElem_data,hlt]
   ·cases h
  ·cases h
 ·cases h
theorem strEq_sound {op : BinOp} {t ty : TypeId} {t1 t2 : Option TypeId} {x y : Operand} {ax ay : AOpd} (hT : TmpsOk σ S w T a) (hR : RowsOk P Γ Own σ S w R) (ho : o.op = .binOp op t x y ty)
  (hop : op = .eql ∨ op = .neq) (hx : opd P t1 x = some ax) (hy : opd P t2 y = some ay) (h : evStrEq (getO T) (isNeq op) ax ay = some e) :
  ∃ v w',OpRuns P a o w v w'∧Step P Γ Own σ S w R s e v w':=by
 unfold evStrEq at h;split at h
 ·rename_i v u hgx hgy
  split at h
  ·rename_i l m hl hm
   simp only [Option.some.injEq] at h; subst h
   have h1:=strB_inv (Yp hT hx hgx) hl;have h2:=strB_inv (Yp hT hy hgy) hm;refine fin_pure hR (sem:=do eqGuard op t x y (a.eval x) (a.eval y); binOp op t (a.eval x) (a.eval y)) (by simp [execOp,ho]) (u:=.bool ((l == m) != isNeq op)) ?_ (.imm (.bool _))
   rw [h1,h2];unfold eqGuard;rcases hop with rfl | rfl
   ·rw [binOp_string_eql]
    simp [isNeq]
   ·rw [binOp_string_neq]
    simp [isNeq]
  ·cases h
 ·cases h
theorem strId_sound {src dst : TypeId} {t1 : Option TypeId} {x : Operand} {ax : AOpd} (hT : TmpsOk σ S w T a) (hR : RowsOk P Γ Own σ S w R) (ho : o.op = .convert src dst x)
  (hs : P.underlying src = some .string) (hd : P.underlying dst = some .string) (hx : opd P t1 x = some ax) (h : evStrId (getO T) ax = some e) :
  ∃ v w',OpRuns P a o w v w'∧Step P Γ Own σ S w R s e v w':=by
 unfold evStrId at h;split at h
 ·rename_i v hg
  split at h
  ·rename_i l hl
   simp only [Option.some.injEq] at h; subst h
   refine fin_pure hR (sem:=convert src dst (a.eval x)) (by simp [execOp,ho]) (u:=.string ⟨l.toArray⟩) ?_ (strA_rel l)
   rw [strB_inv (Yp hT hx hg) hl];unfold convert;rw [Sem.run_bind,run_underlying hs,Result.andThen_ok,Sem.run_bind,run_underlying hd,Result.andThen_ok];rfl
  ·cases h
 ·cases h
theorem byteOf_spec {x : AV} {b : UInt8} (h : byteOf x = some b) : x = .int .u8 (b.toNat : Int):=by
 unfold byteOf at h;split at h
 ·rename_i n
  split at h
  ·rename_i hn
   simp only [Option.some.injEq] at h; subst h
   have : (UInt8.ofNat n.toNat).toNat = n.toNat:=by
    rw [UInt8.toNat_ofNat_of_lt' (by show n.toNat < 256; omega)]
   rw [this]
   congr 1; omega
  ·cases h
 ·cases h
theorem flat_ints : ∀ {es : List AV},(∀ x ∈ es,∃ k n,x = .int k n) → flat es = es
 | [],_ => rfl
 | x :: es,h => by
  obtain ⟨k,n,rfl⟩:=h x (by simp)
  have:=flat_ints (es:=es) fun y hy => h y (List.mem_cons_of_mem _ hy)
  unfold flat at this ⊢;simp [List.flatMap_cons,AV.cells,this]
theorem strOf_sound {src dst el : TypeId} {t1 : Option TypeId} {x : Operand} {ax : AOpd} (hT : TmpsOk σ S w T a) (hR : RowsOk P Γ Own σ S w R) (ho : o.op = .convert src dst x)
  (hs : P.underlying src = some (.slice el)) (he : P.underlying el = some (.int .u8)) (hd : P.underlying dst = some .string) (hx : opd P t1 x = some ax) (h : evStrOf (getO T) R ax = some e) :
  ∃ v w',OpRuns P a o w v w'∧Step P Γ Own σ S w R s e v w':=by
 unfold evStrOf at h;split at h
 ·rename_i av hg
  split at h
  ·rename_i es ids hes
   split at h
   ·rename_i l hl
    simp only [Option.some.injEq] at h; subst h
    obtain ⟨ad,cap,hv,hxe,hsrc⟩:=elems_src hR (Yp hT hx hg) hes;obtain ⟨h3,h4⟩:=mapO_spec hl;refine fin_pure hR (sem:=convert src dst (a.eval x)) (by simp [execOp,ho]) (u:=.string ⟨l.toArray⟩) ?_ (strA_rel l)
    rw [hv];by_cases hne : es = []
    ·subst hne
     have : l = []:=by
      cases l with
      | nil => rfl
      | cons b l => simp at h3
     subst this;rw [run_convert_bytes_string w src dst el ad _ cap hs he hd];cases ad <;> (simp [Conv.bytesToString,loadCells,loadCellsFrom,ByteArray.empty,ByteArray.emptyWithCapacity] <;> rfl)
    ·obtain ⟨b,q,rfl,news,hnl,hn1,hn2⟩:=hsrc hne
     have hll : es.length = l.length:=by omega
     rw [hll];refine run_convert_bytes_back w src dst el _ cap l hs he hd fun j hj => ?_
     have hje : j < es.length:=by omega
     have hjn : j < news.length:=by omega
     have e1:=byteOf_spec (h4 j _ _ (List.getElem?_eq_getElem hje) (List.getElem?_eq_getElem hj));have hfl : flat es = es:=flat_ints fun x hx => by
      obtain ⟨j,hj,rfl⟩:=List.getElem_of_mem hx;exact ⟨_,_,byteOf_spec (h4 j _ _ (List.getElem?_eq_getElem hj) (List.getElem?_eq_getElem (show j < l.length by omega)))⟩
     have e2:=hn2 j _ _ (List.getElem?_eq_getElem hjn) (by rw [hfl]; exact List.getElem?_eq_getElem hje)
     rw [e1] at e2;have e3:=hn1 j _ (List.getElem?_eq_getElem hjn);generalize news[j] = u at e2 e3;cases e2;have hplain : (⟨b,q,none⟩ : Addr).add j = ⟨b,q + j,none⟩:=by unfold Addr.add; split <;> simp_all
     rw [hplain];exact e3
   ·cases h
  ·cases h
 ·cases h
end
end Go.Abs
