/-
 Several texts: XS, XP, XE.
-/
import Derived.Test.YtgpbjihpkoiaiaaProg
import Derived.Shelf.Strings.Builder1
import Derived.Test.YtgpbjihpkoiaiaaXV
import Derived.Test.YtgpbjihpkoiaiaaBits
import Derived.BigCall
import Derived.Test.YtgpbjihpkoiaiaaPrim
import Derived.Test.YtgpbjihpkoiaiaaFns
set_option linter.all false
namespace Go.Proofs
open Go.Shelf Go.RowKit
theorem info_of {P : Program} {t : TypeId} {z : Option Value} {s b : Nat} (h : (P.info? t).map (fun i => (i.zero,i.size,i.bytes)) = some (z,s,b)) : ∃ i,P.info? t = some i ∧ i.zero = z ∧ i.size = s ∧ i.bytes = b := by
 cases hi : P.info? t with
 | none => rw [hi] at h; cases h
 | some i =>
  rw [hi] at h;simp only [Option.map_some,Option.some.injEq,Prod.mk.injEq] at h;exact ⟨i,rfl,h.1,h.2.1,h.2.2⟩
set_option maxHeartbeats 1000000 in
set_option maxRecDepth 100000 in
theorem Try.copyCheck_used (b : Nat) (w : World) (h0 : w.cell? ⟨b,0,none⟩ = some (.pointer (some ⟨b,0,none⟩))) :
  Calls Try.prog 171 #[.pointer (some ⟨b,0,none⟩)] w fun e w' => e = .returned (.tuple #[]) ∧ w' = w := by
 obtain ⟨j,hj,_⟩ := info_of (P := Try.prog) (t := 211) (z := some (.agg #[.pointer none,.slice none 0 0])) (s := 2) (b := 32) (by kernel_rfl)
 go_enter Try.func171,Try.ntmps171
 go_wp2
 rw [Lib.run_neq_ptr_same w _ Try.underlying209 hj]
 go_wp2
 go_end0
 exact ⟨rfl,rfl⟩
set_option maxHeartbeats 1000000 in
set_option maxRecDepth 100000 in
theorem Try.copyCheck_fresh (b : Nat) (w : World) (h0 : w.cell? ⟨b,0,none⟩ = some (.pointer none)) (hsh : w.shape? b = some (211,2)) (hfz : w.frozen? ⟨b,0,none⟩ = false) :
  Calls Try.prog 171 #[.pointer (some ⟨b,0,none⟩)] w fun e w' => e = .returned (.tuple #[]) ∧ w' = w.setCell ⟨b,0,none⟩ (.pointer (some ⟨b,0,none⟩)) := by
 obtain ⟨j,hj,_,hjs,_⟩ := info_of (P := Try.prog) (t := 211) (z := some (.agg #[.pointer none,.slice none 0 0])) (s := 2) (b := 32) (by kernel_rfl)
 have hlies : liesAt Try.prog Try.prog.depth 211 (2 / Try.prog.cellsOf 211) 0 211 1 = true := by kernel_rfl
 go_enter Try.func171,Try.ntmps171
 go_wp2
 rw [Lib.run_to_unsafe w ⟨b,0,none⟩ Try.underlying209 Try.underlying287 hj (by rw [hjs]; decide) hsh (Nat.zero_lt_succ 1)]
 simp only [Result.andThen];rw [Oper.upon_value]
 go_wp2
 rw [run_callFunc_extern Try.func194 (by kernel_rfl) (by kernel_rfl) (by kernel_rfl) (e := Extern.AbiNoEscape.same) (by kernel_rfl)]
 rw [Lib.run_noEscape];simp only [Result.andThen];rw [Oper.upon_value]
 go_wp2
 rw [Lib.run_from_unsafe w ⟨b,0,none⟩ Try.underlying287 Try.underlying209 hj hsh hlies];simp only [Result.andThen];rw [Oper.upon_value]
 go_wp2
 go_end0
 exact ⟨rfl,rfl⟩
theorem Try.copyCheck_ok (B b : Nat) (bs : List Value) (w : World) (h : Lib.IsBuilder 211 5 B b bs w) :
  Calls Try.prog 171 #[.pointer (some ⟨b,0,none⟩)] w fun e w' => e = .returned (.tuple #[]) ∧ (Lib.BuilderAt 211 5 B b (.pointer (some ⟨b,0,none⟩)) bs w' ∧ Below B w w') := by
 rcases h with h | h
 ·refine (Try.copyCheck_fresh b w h.cell0 h.shape h.frozen0).mono ?_
  rintro e w' ⟨rfl,rfl⟩;exact ⟨rfl,h.used _,(Below.refl B w).setCell (p := ⟨b,0,none⟩) h.1 _⟩
 ·refine (Try.copyCheck_used b w h.cell0).mono ?_
  rintro e w' ⟨rfl,rfl⟩;exact ⟨rfl,h,Below.refl B _⟩
set_option maxHeartbeats 2000000 in
set_option maxRecDepth 100000 in
theorem Try.WriteByte_ok (B b : Nat) (bs : List Value) (c : Int) (w : World) (h : Lib.IsBuilder 211 5 B b bs w) (hlen : bs.length + 1 ≤ 140737488355328) (hBw : B ≤ w.heap.size) :
  Calls Try.prog 128 #[.pointer (some ⟨b,0,none⟩),.int .u8 c] w fun e w' => e = .returned .nilIface ∧ (Lib.BuilderAt 211 5 B b (.pointer (some ⟨b,0,none⟩)) (bs ++ [.int .u8 c]) w' ∧ Below B w w') := by
 obtain ⟨i0,hi,hz0,hz1,hz2⟩ := info_of (P := Try.prog) (t := 5) (z := some (.int .u8 0)) (s := 1) (b := 1) (by kernel_rfl)
 go_enter Try.func128,Try.ntmps128
 go_wp2_with (go_at_call 171; refine (Try.copyCheck_ok B b bs _ h).mono ?_)
 rintro e w1 ⟨rfl,h1,hb1⟩;obtain ⟨hB,v,hbk,hown,hne⟩ := h1;have c0 : w1.cell? ⟨b,0,none⟩ = some (.pointer (some ⟨b,0,none⟩)) := by rw [Lib.cell_of_heap hbk]; rfl
 have c1 : w1.cell? ⟨b,1,none⟩ = some v := by rw [Lib.cell_of_heap hbk]; rfl
 go_wp2_with (at_builtin; refine wpList_append_own _ rfl _ _ 22 rfl B 5 i0 (.int .u8 0) 1 1 Try.underlying22 hi hz0 hz1 hz2 rfl (by decide) _ _ _ rfl (hown.alloc _) ⟨w1.heap.size,0,none⟩ 1 1 [.int .u8 c] rfl rfl ?c1 ?c2 ?c3 ?c4 ?c5 ?_)
 case c1 =>
  intro j u hj
  match j,hj with
  | 0,hj => simp at hj; subst hj; simp [Addr.add]
 case c2 => intro u hu; simp at hu; subst hu; rfl
 case c3 => unfold maxLen; omega
 case c4 => omega
 case c5 => have := hb1.size; simp; omega
 intro v' w2 hown' hgrow _;have hlt : b < w1.heap.size := by
  rcases Nat.lt_or_ge b w1.heap.size with h' | h'
  ·exact h'
  ·simp [Array.getElem?_eq_none h'] at hbk
 have hb2 : w2.heap[b]? = some (.cells #[.pointer (some ⟨b,0,none⟩),v] 211 (0,0)) := by
  rw [hgrow.block b (by simp; omega) (fun e => hne e.symm),Lib.alloc_old w1 _ b hlt]
  exact hbk
 have d0 : w2.cell? ⟨b,0,none⟩ = some (.pointer (some ⟨b,0,none⟩)) := by rw [Lib.cell_of_heap hb2]; rfl
 have d1 : w2.cell? ⟨b,1,none⟩ = some v := by rw [Lib.cell_of_heap hb2]; rfl
 have f1 : w2.frozen? ⟨b,1,none⟩ = false := Lib.frozen_of_heap hb2 1;obtain ⟨g,cap,rfl⟩ : ∃ g cap,v' = .slice (some ⟨g,0,none⟩) (bs.length + 1) cap := by
  rcases hown'.2 with ⟨_,h0⟩ | ⟨g,cap,cur,hv,_⟩
  ·omega
  ·exact ⟨g,cap,hv⟩
 go_wp2
 go_ret
 refine ⟨rfl,?_,?_⟩
 ·exact Lib.BuilderAt.put (T := 211) (e := 5) hB hb2 (bs' := bs ++ [.int .u8 c]) (by simpa using hown') (by decide)
 ·exact ((hb1.alloc (by have := hb1.size; omega) _).grown hgrow (by have := hb1.size; simp; omega) (fun k hk => (hown.lt k hk).1)).setCell (p := ⟨b,1,none⟩) hB _
def Try.lays169_ren : Go.Shelf.Ren := ⟨fun | 169 => 131 | n => n,fun | 70 => 209 | 9 => 9 | 0 => 0 | 72 => 211 | 37 => 22 | 127 => 254 | 3 => 3 | 5 => 5 | n => n,fun | n => n⟩
theorem Try.lays169 : Go.Proofs.Lays.n169 Try.prog Try.lays169_ren := {
 mixed := by kernel_rfl
 f169 := Try.func131.trans (congrArg some (by kernel_rfl))
 t0 := Try.underlying0
 a0 := Try.isAgg0
 z0 := Try.sizeOf0
 v0 := Try.zeroValue0
 t3 := Try.underlying3
 a3 := Try.isAgg3
 z3 := Try.sizeOf3
 v3 := Try.zeroValue3
 t9 := Try.underlying9
 a9 := Try.isAgg9
 z9 := Try.sizeOf9
 v9 := Try.zeroValue9
 t37 := Try.underlying22
 a37 := Try.isAgg22
 z37 := Try.sizeOf22
 v37 := Try.zeroValue22
 t70 := Try.underlying209
 a70 := Try.isAgg209
 z70 := Try.sizeOf209
 v70 := Try.zeroValue209
 t72 := Try.underlying211
 a72 := Try.isAgg211
 z72 := Try.sizeOf211
 v72 := Try.zeroValue211
 t127 := Try.underlying254
 a127 := Try.isAgg254
 z127 := Try.sizeOf254
 v127 := Try.zeroValue254 }
theorem Try.Builder_Extra_169 : Builder.Extra Try.prog Try.lays169_ren := {
 sizeBuilder := by kernel_rfl
 liesBuilder := by kernel_rfl
 t5 := Try.underlying5
 a5 := Try.isAgg5
 z5 := Try.sizeOf5
 v5 := Try.zeroValue5
 infoByte := by kernel_rfl
 cellsByte := by kernel_rfl
 sizeByte := by kernel_rfl
 neB5 := by decide }
open Go.RowKit in
theorem Try.Builder_String_any (B b : Nat) (l : List UInt8) (w : World) (h : Lib.IsBuilder 211 5 B b (Lib.byteCells l) w) (hBw : B ≤ w.heap.size) :
  Calls Try.prog 131 #[.pointer (some ⟨b,0,none⟩)] w fun e w' => e = .returned (.string ⟨l.toArray⟩) ∧ Below B w w' := Any.Builder_String_any Try.lays169 Try.Builder_Extra_169 B b l w h hBw
end Go.Proofs
set_option linter.all false
namespace Go.Proofs
open Go.Shelf Go.RowKit
set_option maxHeartbeats 1000000 in
set_option maxRecDepth 100000 in
theorem Try.mark_walk (c : Bool) (w : World) : Calls Try.prog 129 #[.bool c] w fun e w' => e = .returned (.int .u8 (if c then 120 else 46)) ∧ w' = w := by
 cases c
 ·go_enter Try.func129,Try.ntmps129
  go_wp2
  go_ret
  exact ⟨rfl,rfl⟩
 ·go_enter Try.func129,Try.ntmps129
  go_wp2
  go_ret
  exact ⟨rfl,rfl⟩
set_option maxHeartbeats 1000000 in
set_option maxRecDepth 100000 in
theorem Try.lifted_walk (hk : Int) (b o len cap k : Nat) (row x : Nat) (w : World) (hx : x < 63) (hr : row < 9223372036854775808) (hk2 : k < len) (hlen : len ≤ 1000) (hb : b < w.heap.size) (hc : w.cell? ⟨b,o + k,none⟩ = some (.int .i64 (x : Int))) :
  Calls Try.prog 130 #[.agg #[.int .i64 hk,.slice (some ⟨b,o,none⟩) len cap],.int .i64 (row : Int),.int .i64 (k : Int)] w fun e w' => e = .returned (.bool (row.testBit x)) ∧ w' = w.alloc (.cells #[.int .i64 hk,.slice (some ⟨b,o,none⟩) len cap] 147) := by
 go_enter Try.func130,Try.ntmps130
 go_wp2
 go_ret
 have h3 : ((row : Int) / 2 ^ x) = ((row / 2 ^ x : Nat) : Int) := by simp
 have h4 : row / 2 ^ x < 9223372036854775808 := Nat.lt_of_le_of_lt (Nat.div_le_self _ _) hr;have h1 : bits .and .i64 ((row : Int) / 2 ^ x) 1 = ((row / 2 ^ x % 2 : Nat) : Int) := by
  rw [h3];have h2 := Go.Abs.w_and1 (row / 2 ^ x) h4;rw [Nat.and_one_is_mod] at h2;exact h2
 rw [h1];refine ⟨?_,rfl⟩;rw [Nat.testBit_eq_decide_div_mod_eq]
 congr 2
 by_cases h : row / 2 ^ x % 2 = 1
 ·simp [h]
 ·have := Nat.mod_two_eq_zero_or_one (row / 2 ^ x)
  simp [h];omega
theorem builder_alloc {T e : TypeId} {B b : Nat} {bs : List Value} {w : World} (h : Lib.IsBuilder T e B b bs w) (o : Obj) : Lib.IsBuilder T e B b bs (w.alloc o) := by
 have key : ∀ p,Lib.BuilderAt T e B b p bs w → Lib.BuilderAt T e B b p bs (w.alloc o) := fun p h => by
  have hlt := h.lt;obtain ⟨hB,v,hb,hown,hne⟩ := h;exact ⟨hB,v,(Lib.alloc_old w o b hlt).trans hb,hown.alloc o,hne⟩
 rcases h with h | h
 ·exact .inl (key _ h)
 ·exact .inr (key _ h)
set_option maxHeartbeats 2000000 in
set_option maxRecDepth 100000 in
theorem Try.pick_walk (hk : Int) (ad : Option Addr) (cap : Nat) (ws : List Nat) (row : Nat) (w : World) (hw : ∀ x ∈ ws,x < 63) (hr : row < 9223372036854775808) (hl : ws.length ≤ 1000)
  (hc : ∀ k (h : k < ws.length),∃ b o,ad = some ⟨b,o,none⟩ ∧ b < w.heap.size ∧ w.cell? ⟨b,o + k,none⟩ = some (.int .i64 (ws[k] : Int))) :
  Calls Try.prog 70 #[.agg #[.int .i64 hk,.slice ad ws.length cap],.int .i64 (row : Int)] w fun e w' => e = .returned (.string ⟨(Go.Abs.pickB row ws).toArray⟩) ∧ Below w.heap.size w w' := by
 go_enter Try.func70,Try.ntmps70
 go_wp2
 go_loopw [11] (fun i wr => ∃ k : Nat,k ≤ ws.length ∧ i = .int .i64 (k : Int) ∧ Lib.IsBuilder 211 5 (w.heap.size + 1) (w.heap.size + 1) (Lib.byteCells (Go.Abs.pickB row (ws.take k))) wr ∧ Below (w.heap.size + 1) (w.alloc (.cells #[.int .i64 hk,.slice ad ws.length cap] 147)) wr) (fun i _ => ws.length - (RowKit.intOf i).toNat)
 case atStart =>
  refine ⟨0,by omega,rfl,?_,?_⟩
  ·have h := Lib.fresh_isBuilder 211 5 (w.alloc (.cells #[.int .i64 hk,.slice ad ws.length cap] 147))
   simpa [Lib.byteCells,Go.Abs.pickB] using h
  ·exact (Below.refl _ _).alloc (by simp) _
 case round =>
  obtain ⟨k,hk2,rfl,hI,hb⟩ := hrel;have hbox : wr.heap[w.heap.size]? = some (.cells #[.int .i64 hk,.slice ad ws.length cap] 147 (0,0)) := by rw [hb.block w.heap.size (by omega)]; exact heap_alloc_new w _
  have b0 : wr.cell? ⟨w.heap.size,0,none⟩ = some (.int .i64 hk) := by rw [Lib.cell_of_heap hbox]; rfl
  have b1 : wr.cell? ⟨w.heap.size,1,none⟩ = some (.slice ad ws.length cap) := by rw [Lib.cell_of_heap hbox]; rfl
  have hsz : w.heap.size + 1 ≤ wr.heap.size := by have := hb.size; simpa using this
  by_cases h : k < ws.length
  ·obtain ⟨b,o,rfl,hbs,hcell⟩ := hc k h
   have hx := hw _ (List.getElem_mem h);have hcw : wr.cell? ⟨b,o + k,none⟩ = some (.int .i64 (ws[k] : Int)) := by
    rw [hb.cell (p := ⟨b,o + k,none⟩) (by simp only; omega),World.cell?_of_block (a := ⟨b,o + k,none⟩) (Below.heap_alloc w _ b hbs)]
    exact hcell
   go_wp2_with (go_at_call 130; refine (Try.lifted_walk hk b o ws.length cap k row ws[k] _ hx hr h hl (by omega) hcw).mono ?_)
   rintro e W1 ⟨rfl,rfl⟩;have hI1 := builder_alloc hI (.cells #[.int .i64 hk,.slice (some ⟨b,o,none⟩) ws.length cap] 147);have hlen : (Lib.byteCells (Go.Abs.pickB row (ws.take k))).length + 1 ≤ 140737488355328 := by
    rw [Lib.byteCells_length];simp only [Go.Abs.pickB,List.length_map,List.length_take];omega
   have e1 : ∀ c,row.testBit ws[k] = c → Lib.byteCells (Go.Abs.pickB row (ws.take (k + 1))) = Lib.byteCells (Go.Abs.pickB row (ws.take k)) ++ [.int .u8 (if c = true then 120 else 46)] := fun c hq => by
    rw [List.take_succ_eq_append_getElem h];simp only [Go.Abs.pickB,List.map_append,Lib.byteCells_append,List.map_cons,List.map_nil,hq]
    congr 1
    cases c <;> rfl
   generalize hq : row.testBit ws[k] = q at *;have e2 := e1 q rfl;clear e1;cases q
   ·rw [if_neg (by decide)] at e2
    go_wp2_with (first | (go_at_call 129; refine (Try.mark_walk _ _).mono ?_; rintro e w' ⟨rfl,rfl⟩) | (go_at_call 128; refine (Try.WriteByte_ok (w.heap.size + 1) (w.heap.size + 1) _ _ _ hI1 hlen (by simp; omega)).mono ?_))
    rintro e W3 ⟨rfl,h1,hb3⟩
    go_wp2
    go_roundw
    case rel =>
     refine ⟨k + 1,by omega,by simp,?_,(hb.alloc hsz _).trans hb3⟩
     rw [e2];exact .inr h1
    case measure =>
     simp [RowKit.intOf];omega
   ·rw [if_pos rfl] at e2
    go_wp2_with (first | (go_at_call 129; refine (Try.mark_walk _ _).mono ?_; rintro e w' ⟨rfl,rfl⟩) | (go_at_call 128; refine (Try.WriteByte_ok (w.heap.size + 1) (w.heap.size + 1) _ _ _ hI1 hlen (by simp; omega)).mono ?_))
    rintro e W3 ⟨rfl,h1,hb3⟩
    go_wp2
    go_roundw
    case rel =>
     refine ⟨k + 1,by omega,by simp,?_,(hb.alloc hsz _).trans hb3⟩
     rw [e2];exact .inr h1
    case measure =>
     simp [RowKit.intOf];omega
  ·obtain rfl : k = ws.length := by omega
   rw [List.take_length] at hI
   go_wp2_with (go_at_call 131; refine (Try.Builder_String_any (w.heap.size + 1) (w.heap.size + 1) _ _ hI hsz).mono ?_)
   rintro e W1 ⟨rfl,hb1⟩
   go_wp2
   go_ret
   exact ⟨rfl,((Below.refl w.heap.size w).alloc (Nat.le_refl _) _).trans ((hb.trans hb1).mono (by omega))⟩
end Go.Proofs
set_option linter.all false
namespace Go.Abs
open Go.Proofs Go.RowKit
theorem tieV_shape (x y v : AV) (h : tieV [x,y] = some v) : ∃ hk es row ws,x = .agg [.int .i64 hk,.list 1 es] ∧ y = .int .i64 row ∧ mapO warpOf es = some ws ∧ 0 ≤ row ∧ row < 9223372036854775808 ∧ es.length ≤ 1000 ∧ v = strA (pickB row.toNat ws) := by
 unfold tieV at h;split at h
 ·rename_i hk es row he
  simp only [List.cons.injEq,and_true] at he;obtain ⟨rfl,rfl⟩ := he;split at h
  ·rename_i ws hws
   split at h
   ·rename_i hc
    simp only [Option.some.injEq] at h;exact ⟨hk,es,row,ws,rfl,rfl,hws,hc.1,hc.2.1,hc.2.2,h.symm⟩
   ·cases h
  ·cases h
 ·cases h
theorem warpOf_spec {x : AV} {n : Nat} (h : warpOf x = some n) : x = .int .i64 (n : Int) ∧ n < 63 := by
 unfold warpOf at h;split at h
 ·split at h
  ·rename_i m hm
   simp only [Option.some.injEq] at h; subst h
   exact ⟨by congr 1; omega,by omega⟩
  ·cases h
 ·cases h
theorem pick_ext : ExtOk Try.prog 70 (primA2 tieV) := by
 refine ext_prim2 (fun x y v h => ?_) ⟨_,Try.func70,by kernel_rfl,by kernel_rfl⟩ fun cs k m s h S w v u hv hu => ?_
 ·obtain ⟨hk,es,row,ws,rfl,rfl,-,-,-,-,rfl⟩ := tieV_shape _ _ _ h
  exact ⟨⟨_,rfl⟩,⟨_,_,rfl⟩,_,rfl⟩
 ·obtain ⟨hk,es,row,ws,hcs,hy,hws,h0,h1,h2,hs⟩ := tieV_shape _ _ _ h
  simp only [AV.agg.injEq] at hcs; subst hcs
  simp only [AV.int.injEq] at hy;obtain ⟨rfl,rfl⟩ := hy;simp only [strA,AV.const.injEq,Value.string.injEq] at hs;subst hs hu;obtain ⟨h3,h4⟩ := mapO_spec hws;have hlt : ∀ x ∈ ws,x < 63 := fun x hx => by
   obtain ⟨j,hj,rfl⟩ := List.getElem_of_mem hx;exact (warpOf_spec (h4 j _ _ (List.getElem?_eq_getElem (by omega)) (List.getElem?_eq_getElem hj))).2
  cases hv with
  | agg vs _ hl hr =>
   have hl2 : vs.size = 2 := by simpa using hl
   have r0 := hr 0 vs[0] (.int .i64 hk) (Array.getElem?_eq_getElem (by omega)) rfl
   have r1 := hr 1 vs[1] (.list 1 es) (Array.getElem?_eq_getElem (by omega)) rfl
   have hv2 : vs = #[vs[0],vs[1]] := by
    apply Array.ext
    ·simpa using hl2
    ·intro i hi1 hi2
     have : i = 0 ∨ i = 1 := by omega
     rcases this with rfl | rfl <;> rfl
   rw [hv2];generalize vs[0] = a0 at *;generalize vs[1] = a1 at *;clear hr hv2;cases r0;obtain ⟨r,rfl⟩ : ∃ r : Nat,m = (r : Int) := ⟨m.toNat,by omega⟩
   simp only [Int.toNat_natCast];have fin := fun ad cap hc => Try.pick_walk hk ad cap ws r w hlt (by omega) (by omega) hc
   cases r1 with
   | list0 a cap sz =>
    have : ws = [] := by
     cases ws with
     | nil => rfl
     | cons x l => simp at h3
    subst this;exact fin a cap (fun k hk => by simp at hk)
   | list b o sz cap es f hb hcap he hc hr =>
    rw [← h3];refine fin _ cap fun k hk => ⟨b,o,rfl,?_,?_⟩
    ·have := hc k (by omega)
     exact World.block_lt_of_cell? _ _ this
    ·have e1 := hc k (by omega)
     have e2 := (warpOf_spec (h4 k _ _ (List.getElem?_eq_getElem (by omega)) (List.getElem?_eq_getElem hk))).1
     have hfl : flat es = es := flat_ints fun x hx => by
      obtain ⟨j,hj,rfl⟩ := List.getElem_of_mem hx;exact ⟨_,_,(warpOf_spec (h4 j _ _ (List.getElem?_eq_getElem hj) (List.getElem?_eq_getElem (by omega)))).1⟩
     have e3 := hr k es[k] (by rw [hfl]; exact List.getElem?_eq_getElem (by omega))
     rw [e2] at e3;rw [e1];generalize f k = z at *;cases e3;rfl
theorem F_okX (f : Nat) (afn : AFn) (h : F f = some afn) : (∃ fn hh,Try.prog.funcs[f]? = some fn ∧ compFn Try.prog bor hh fn = some afn) ∨ ExtOk Try.prog f afn := by
 rcases F_ok f afn h with h | ⟨rfl,rfl⟩
 ·exact .inl h
 ·exact .inr pick_ext
end Go.Abs
