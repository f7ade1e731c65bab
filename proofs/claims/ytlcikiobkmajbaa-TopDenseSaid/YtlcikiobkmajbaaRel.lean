/-
 How the abstract interpreter's values and rows stand to the model's: the relations, and that they stay as memory grows.
-/
import Derived.Test.YtlcikiobkmajbaaAbs
import Derived.Laws.AppendOwn
import Derived.Laws.MakeOwn
import Derived.Laws.Tables
import Derived.Laws.Entries
import Derived.RangeFuncIn
set_option linter.all false
namespace Go.Abs
inductive Loc where
 | virt
 | row (b sz n c : Nat)
 | map (r : Nat)
 | tag (l : Nat)
 | gen (l : Nat) (C : List Nat)
 | iter (r m : Nat)
 | tab (b sz n c : Nat) (inn : List (Option (Nat × Nat)))
 | stamp (n : Nat)
def Loc.blocks : Loc → List Nat
 | .virt => []
 | .row b _ _ _ => [b]
 | .map r => [r]
 | .tag .. => []
 | .gen _ C => C
 | .iter r m => [r,m]
 | .tab b _ _ _ inn => b :: inn.filterMap (fun o=>o.map (·.1))
 | .stamp _ => []
abbrev LogP:=Option Nat → List (List AV) → List Nat → (Nat → Prop) → World → Prop
abbrev Gam:=Nat → LogP
def Stay (S : Nat → Prop) (w w' : World) : Prop:=∀ b,S b → (∀ i x,w.cell? ⟨b,i,none⟩ = some x → w'.cell? ⟨b,i,none⟩ = some x)∧∀ es c,w.heap[b]? = some (.map es c) → w'.heap[b]? = some (.map es c)
theorem cell_of_heap {w w' : World} {b i : Nat} (h : w'.heap[b]? = w.heap[b]?) : w'.cell? ⟨b,i,none⟩ = w.cell? ⟨b,i,none⟩:=by
 simp [World.cell?,h]
theorem Stay.heap {S : Nat → Prop} {w w' : World} (h : ∀ b,S b → w'.heap[b]? = w.heap[b]?) : Stay S w w':=fun b hb => ⟨fun i x hx => by rw [cell_of_heap (h b hb)]; exact hx,fun es c hm => by rw [h b hb]; exact hm⟩
theorem Stay.refl (S : Nat → Prop) (w : World) : Stay S w w:=fun _ _ => ⟨fun _ _ h => h,fun _ _ h => h⟩
theorem Stay.trans {S S' : Nat → Prop} {w w' w'' : World} (h : Stay S w w') (hS : ∀ b,S b → S' b) (h' : Stay S' w' w'') : Stay S w w'':=fun b hb => ⟨fun i x hx => (h' b (hS b hb)).1 i x ((h b hb).1 i x hx),fun es c hm => (h' b (hS b hb)).2 es c ((h b hb).2 es c hm)⟩
theorem Stay.put {S : Nat → Prop} {w : World} {l : Nat} {o : Obj} (o' : Obj) (h : w.heap[l]? = some o) (ho : ∀ cs t d,o ≠ .cells cs t d) (ho2 : ∀ es c,o ≠ .map es c) : Stay S w { w with heap:=w.heap.setIfInBounds l o' }:=by
 intro b _;by_cases e : b = l
 ·subst e
  refine ⟨fun i x hx => ?_,fun es c hm => ?_⟩
  ·unfold World.cell? at hx
   simp only [h] at hx;cases o <;> first | (exact absurd rfl (ho _ _ _)) | (simp at hx)
  ·rw [h] at hm
   exact absurd (Option.some.inj hm) (ho2 es c)
 ·refine ⟨fun i x hx => ?_,fun es c hm => ?_⟩
  ·rw [cell_of_heap (w:=w)]
   ·exact hx
   ·exact Array.getElem?_setIfInBounds_ne (Ne.symm e)
  ·rw [← hm]
   exact Array.getElem?_setIfInBounds_ne (Ne.symm e)
def Keep (H : LogP) : Prop:=∀ k xs C S S' w w',H k xs C S w → (∀ b,S b → S' b) → (∀ b,b ∈ C → w'.heap[b]? = w.heap[b]?) → Stay S w w' → w.heap.size≤w'.heap.size → H k xs C S' w'
theorem Keep.up {H : LogP} (h : Keep H) {k : Option Nat} {xs : List (List AV)} {C : List Nat} {S S' : Nat → Prop} {w : World} (hg : H k xs C S w) (hS : ∀ b,S b → S' b) : H k xs C S' w :=
 h k xs C S S' w w hg hS (fun _ _ => rfl) (Stay.refl S w) (Nat.le_refl _)
abbrev Ids:=Nat → Option Loc
def Elem (sz : Nat) (e : AV) : Prop:=e.cells.length = sz∧∀ c ∈ e.cells,c.scalar = true
def flat (es : List AV) : List AV:=es.flatMap AV.cells
def AV.toVal : AV → Value
 | .int k n => .int k n
 | .bool b => .bool b
 | _ => .int .i64 0
def AV.toVal2 : AV → Value
 | .agg cs => .agg (cs.map AV.toVal).toArray
 | .func f _ => .func (.func f) #[] #[]
 | v => v.toVal
inductive RelI (S : Nat → Prop) (w : World) : Value → AV → Prop
 | int (k : IntKind) (n : Int) : RelI S w (.int k n) (.int k n)
 | bool (b : Bool) : RelI S w (.bool b) (.bool b)
 | any (v : Value) : RelI S w v .any
 | const (v : Value) : RelI S w v (.const v)
 | nil (a : Option Addr) (sz : Nat) : RelI S w (.slice a 0 0) (.nilS sz)
 | list0 (a : Option Addr) (cap sz : Nat) : RelI S w (.slice a 0 cap) (.list sz [])
 | list (b o sz cap : Nat) (es : List AV) (f : Nat → Value) (hb : S b) (hcap : es.length≤cap) (he : ∀ e ∈ es,Elem sz e)
   (hc : ∀ i,i < es.length * sz → w.cell? ⟨b,o + i,none⟩ = some (f i)) (hr : ∀ (i : Nat) c,(flat es)[i]? = some c → RelI S w (f i) c) :
   RelI S w (.slice (some ⟨b,o,none⟩) es.length cap) (.list sz es)
 | clip0 (a : Option Addr) (sz : Nat) : RelI S w (.slice a 0 0) (.clip sz [])
 | clip (b o sz : Nat) (es : List AV) (f : Nat → Value) (hb : S b) (he : ∀ e ∈ es,Elem sz e)
   (hc : ∀ i,i < es.length * sz → w.cell? ⟨b,o + i,none⟩ = some (f i)) (hr : ∀ (i : Nat) c,(flat es)[i]? = some c → RelI S w (f i) c) :
   RelI S w (.slice (some ⟨b,o,none⟩) es.length es.length) (.clip sz es)
 | iptr (b o off : Nat) (e : AV) (f : Nat → Value) (hb : S b) (he : ∀ c ∈ e.cells,c.scalar = true)
   (hc : ∀ i,i < e.cells.length → w.cell? ⟨b,o + i,none⟩ = some (f i)) (hr : ∀ (i : Nat) c,e.cells[i]? = some c → RelI S w (f i) c) :
   RelI S w (.pointer (some ⟨b,o + off,none⟩)) (.iptr e off)
 | agg (vs : Array Value) (cs : List AV) (hl : vs.size = cs.length) (hr : ∀ (i : Nat) v c,vs[i]? = some v → cs[i]? = some c → RelI S w v c) :
   RelI S w (.agg vs) (.agg cs)
 | func (f : Nat) (vs : Array Value) (cs : List AV) (hl : vs.size = cs.length) (hr : ∀ (i : Nat) v c,vs[i]? = some v → cs[i]? = some c → RelI S w v c) :
   RelI S w (.func (.func f) #[] vs) (.func f cs)
 | meth (f : Nat) (v : Value) (b : AV) (hb : RelI S w v b) : RelI S w (.func (.func f) #[v] #[]) (.meth f b)
 | mapI (r : Nat) (k : IntKind) (keys : List Int) (vals : List AV) (es : Array MapEntry) (clock : Nat) (hb : S r) (hh : w.heap[r]? = some (.map es clock)) (hs : es.size = (keys.zip vals).length)
   (he : ∀ (i : Nat) x,(keys.zip vals)[i]? = some x → x.2.mpVal = true∧∃ e,es[i]? = some e∧e.key = .int k x.1∧e.val = x.2.toVal2) : RelI S w (.map (some r)) (.mapI k keys vals)
theorem RelI.stay {S S' : Nat → Prop} {w w' : World} (hS : ∀ b,S b → S' b) (hw : Stay S w w') {v : Value} {a : AV} (h : RelI S w v a) : RelI S' w' v a:=by
 induction h with
 | int k n => exact .int k n
 | bool b => exact .bool b
 | any v => exact .any v
 | const v => exact .const v
 | nil a sz => exact .nil a sz
 | list0 a cap sz => exact .list0 a cap sz
 | list b o sz cap es f hb hcap he hc _ ih => exact .list b o sz cap es f (hS b hb) hcap he (fun i hi => (hw b hb).1 _ _ (hc i hi)) ih
 | iptr b o off e f hb he hc _ ih => exact .iptr b o off e f (hS b hb) he (fun i hi => (hw b hb).1 _ _ (hc i hi)) ih
 | clip0 a sz => exact .clip0 a sz
 | clip b o sz es f hb he hc _ ih => exact .clip b o sz es f (hS b hb) he (fun i hi => (hw b hb).1 _ _ (hc i hi)) ih
 | agg vs cs hl _ ih => exact .agg vs cs hl ih
 | func f vs cs hl _ ih => exact .func f vs cs hl ih
 | meth f v b _ ih => exact .meth f v b ih
 | mapI r k keys vals es clock hb hh hs he => exact .mapI r k keys vals es clock (hS r hb) ((hw r hb).2 _ _ hh) hs he
theorem RelI.unclip {S : Nat → Prop} {w : World} {v : Value} {sz : Nat} {es : List AV} (h : RelI S w v (.clip sz es)) : RelI S w v (.list sz es):=by
 cases h with
 | clip0 a => exact .list0 a 0 sz
 | clip b o _ _ f hb he hc hr => exact .list b o sz _ es f hb (Nat.le_refl _) he hc hr
theorem RelI.mono {S S' : Nat → Prop} {w w' : World} (hS : ∀ b,S b → S' b) (hw : ∀ b,S b → w'.heap[b]? = w.heap[b]?) {v : Value} {a : AV} (h : RelI S w v a) : RelI S' w' v a :=
 h.stay hS (.heap hw)
inductive RelV (σ : Ids) (S : Nat → Prop) (w : World) : Value → AV → Prop
 | imm {v : Value} {a : AV} (h : RelI S w v a) : RelV σ S w v a
 | sliceV (id : Nat) (a : Option Addr) (h : σ id = some .virt) : RelV σ S w (.slice a 0 0) (.slice id 0 0)
 | slice (id off len cap b sz n c : Nat) (a : Addr) (h : σ id = some (.row b sz n c)) (h1 : off + len≤n) (h2 : n≤off + cap) (h3 : off + cap = c)
   (h4 : cap ≠ 0 → a = ⟨b,off * sz,none⟩) : RelV σ S w (.slice (some a) len cap) (.slice id off len)
 | ptr (id idx off b sz n c : Nat) (h : σ id = some (.row b sz n c)) (h1 : idx < n) :
   RelV σ S w (.pointer (some ⟨b,idx * sz + off,none⟩)) (.ptr id idx off)
 | mapp (id r : Nat) (h : σ id = some (.map r)) : RelV σ S w (.map (some r)) (.mapp id)
 | yieldV (q l : Nat) (h : σ q = some (.tag l)) : RelV σ S w (.func (.yield l) #[] #[]) (.yieldT q)
 | itV (id r m : Nat) (h : σ id = some (.iter r m)) : RelV σ S w (.pointer (some ⟨r,0,none⟩)) (.itT id)
 | stampV (id n : Nat) (h : σ id = some (.stamp n)) : RelV σ S w (goInt n) (.stampT id)
 | tabV (id : Nat) (a : Option Addr) (h : σ id = some .virt) : RelV σ S w (.slice a 0 0) (.tabS id 0)
 | tabS (id b sz n c : Nat) (inn : List (Option (Nat × Nat))) (h : σ id = some (.tab b sz n c inn)) : RelV σ S w (.slice (some ⟨b,0,none⟩) n c) (.tabS id n)
 | tabP (id idx off b sz n c : Nat) (inn : List (Option (Nat × Nat))) (h : σ id = some (.tab b sz n c inn)) (h1 : idx < n) :
   RelV σ S w (.pointer (some ⟨b,idx * sz + off,none⟩)) (.tabP id idx off)
 | inS (id p len b sz n c : Nat) (inn : List (Option (Nat × Nat))) (b' c' : Nat) (h : σ id = some (.tab b sz n c inn)) (h1 : inn[p]? = some (some (b',c'))) (h2 : len≤c') :
   RelV σ S w (.slice (some ⟨b',0,none⟩) len c') (.inS id p len)
 | in0 (id p b sz n c : Nat) (inn : List (Option (Nat × Nat))) (a : Option Addr) (h : σ id = some (.tab b sz n c inn)) (h1 : inn[p]? = some none) :
   RelV σ S w (.slice a 0 0) (.inS id p 0)
 | inP (id p j b sz n c : Nat) (inn : List (Option (Nat × Nat))) (b' c' : Nat) (h : σ id = some (.tab b sz n c inn)) (h1 : inn[p]? = some (some (b',c'))) :
   RelV σ S w (.pointer (some ⟨b',j,none⟩)) (.inP id p j)
 | agg (vs : Array Value) (cs : List AV) (hl : vs.size = cs.length) (hr : ∀ (i : Nat) v c,vs[i]? = some v → cs[i]? = some c → RelV σ S w v c) :
   RelV σ S w (.agg vs) (.agg cs)
 | tuple (vs : Array Value) (cs : List AV) (hl : vs.size = cs.length) (hr : ∀ (i : Nat) v c,vs[i]? = some v → cs[i]? = some c → RelV σ S w v c) :
   RelV σ S w (.tuple vs) (.tuple cs)
 | func (f : Nat) (vs : Array Value) (cs : List AV) (hl : vs.size = cs.length) (hr : ∀ (i : Nat) v c,vs[i]? = some v → cs[i]? = some c → RelV σ S w v c) :
   RelV σ S w (.func (.func f) #[] vs) (.func f cs)
 | meth (f : Nat) (v : Value) (b : AV) (hb : RelV σ S w v b) : RelV σ S w (.func (.func f) #[v] #[]) (.meth f b)
def Ids.le (σ σ' : Ids) : Prop:=∀ id l,σ id = some l → σ' id = some l
theorem RelV.stay {σ σ' : Ids} {S S' : Nat → Prop} {w w' : World} (hσ : σ.le σ') (hS : ∀ b,S b → S' b) (hw : Stay S w w') {v : Value} {a : AV} (h : RelV σ S w v a) : RelV σ' S' w' v a:=by
 induction h with
 | imm h => exact .imm (h.stay hS hw)
 | sliceV id a h => exact .sliceV id a (hσ _ _ h)
 | slice id off len cap b sz n c a h h1 h2 h3 h4 => exact .slice id off len cap b sz n c a (hσ _ _ h) h1 h2 h3 h4
 | ptr id idx off b sz n c h h1 => exact .ptr id idx off b sz n c (hσ _ _ h) h1
 | mapp id r h => exact .mapp id r (hσ _ _ h)
 | yieldV q l h => exact .yieldV q l (hσ _ _ h)
 | itV id r m h => exact .itV id r m (hσ _ _ h)
 | stampV id n h => exact .stampV id n (hσ _ _ h)
 | tabV id a h => exact .tabV id a (hσ _ _ h)
 | tabS id b sz n c inn h => exact .tabS id b sz n c inn (hσ _ _ h)
 | tabP id idx off b sz n c inn h h1 => exact .tabP id idx off b sz n c inn (hσ _ _ h) h1
 | inS id p len b sz n c inn b' c' h h1 h2 => exact .inS id p len b sz n c inn b' c' (hσ _ _ h) h1 h2
 | in0 id p b sz n c inn a h h1 => exact .in0 id p b sz n c inn a (hσ _ _ h) h1
 | inP id p j b sz n c inn b' c' h h1 => exact .inP id p j b sz n c inn b' c' (hσ _ _ h) h1
 | agg vs cs hl _ ih => exact .agg vs cs hl ih
 | tuple vs cs hl _ ih => exact .tuple vs cs hl ih
 | func f vs cs hl _ ih => exact .func f vs cs hl ih
 | meth f v b _ ih => exact .meth f v b ih
theorem RelV.mono {σ σ' : Ids} {S S' : Nat → Prop} {w w' : World} (hσ : σ.le σ') (hS : ∀ b,S b → S' b) (hw : ∀ b,S b → w'.heap[b]? = w.heap[b]?) {v : Value} {a : AV} (h : RelV σ S w v a) : RelV σ' S' w' v a :=
 h.stay hσ hS (.heap hw)
structure Same (w w' : World) : Prop where
 os : w'.os = w.os
 tape : w'.tape = w.tape
 output : w'.output = w.output
 size : w.heap.size≤w'.heap.size
def GoodY (P : Program) (l : Nat) (H : LogP) : Prop :=
 ∀ (S : Nat → Prop) (w : World) (vs : List Value) (as : List AV) (k : Option Nat) (xs xs' : List (List AV)) (bb : Bool) (C : List Nat),H k xs C S w → yieldStep k xs as = some (bb,xs') → vs.length = as.length →
  (∀ (i : Nat) v a,vs[i]? = some v → as[i]? = some a → RelI S w v a) → (∀ b ∈ C,¬ S b) → (∀ b,S b → b < w.heap.size) →
  ∃ fn tmps assign body,(Instr.yield l vs.toArray).run P w = .ok (.round l fn tmps assign body) w ∧
   RoundIn Fence.wide 0 P l fn tmps assign body w fun e w' => e = .returned (.bool bb)∧∃ C',H k xs' C' S w'∧C'.Nodup ∧
    (∀ b ∈ C',(b ∈ C ∨ w.heap.size≤b)∧b < w'.heap.size)∧(∀ b,b < w.heap.size → b ∉ C → w'.heap[b]? = w.heap[b]?)∧Same w w'
structure EntS (ks : List Bool) (es : Array MapEntry) (clock : Nat) (keys : List (List AV)) (vals : List AV) : Prop where
 n : es.size = keys.length
 m : vals.length = keys.length
 pk : ∀ k ∈ keys,k.all AV.plain1 = true
 ok : ∀ k ∈ keys,okKey ks k = true
 nd : keys.Nodup
 pv : ∀ x ∈ vals,x.plain1 = true
 bn : (es.toList.map (·.born)).Nodup
 bc : ∀ e ∈ es.toList,e.born < clock
 e : ∀ (i : Nat) k x,keys[i]? = some k → vals[i]? = some x → ∃ e,es[i]? = some e∧e.key = .agg (k.map AV.toVal).toArray∧e.val = x.toVal
def EntP (ks : List Bool) (es : Array MapEntry) (clock : Nat) (keys : List (List AV)) (vals : List AV) : Prop :=
 keys.length = vals.length∧∃ keys' vals',EntS ks es clock keys' vals'∧(keys.zip vals).Perm (keys'.zip vals')
def EntE (ks : List Bool) (es : Array MapEntry) (clock : Nat) (keys : List (List AV)) (vals : List AV) (i n : Nat) : Prop :=
 keys.length = vals.length∧∃ (keys' : List (List AV)) (vals' : List AV) (j : Nat) (e : MapEntry) (k : List AV),EntS ks es clock keys' vals'∧(keys.zip vals).Perm (keys'.zip vals')∧keys[i]? = some k∧keys'[j]? = some k∧es[j]? = some e∧e.born = n
def KeyV (v : Value) : AV → Prop
 | .int k n => v = .int k n
 | .agg cs => cs.all AV.plain1 = true∧v = .agg (cs.map AV.toVal).toArray
 | _ => False
def EntV (σ : Ids) (S : Nat → Prop) (w : World) (e : MapEntry) (x : AV × AV) : Prop:=KeyV e.key x.1∧RelV σ S w e.val x.2
def EntsV (σ : Ids) (S : Nat → Prop) (w : World) (es : List MapEntry) (kv : List (AV × AV)) : Prop :=
 es.length = kv.length∧∀ (i : Nat) x,kv[i]? = some x → ∃ e,es[i]? = some e∧EntV σ S w e x
theorem EntV.stay {σ σ' : Ids} {S S' : Nat → Prop} {w w' : World} (hσ : σ.le σ') (hS : ∀ b,S b → S' b) (hw : Stay S w w') {e : MapEntry} {x : AV × AV} (h : EntV σ S w e x) : EntV σ' S' w' e x:=⟨h.1,h.2.stay hσ hS hw⟩
theorem EntsV.stay {σ σ' : Ids} {S S' : Nat → Prop} {w w' : World} (hσ : σ.le σ') (hS : ∀ b,S b → S' b) (hw : Stay S w w') {es : List MapEntry} {kv : List (AV × AV)} (h : EntsV σ S w es kv) : EntsV σ' S' w' es kv :=
 ⟨h.1,fun i x hx => by obtain ⟨e,h1,h2⟩:=h.2 i x hx; exact ⟨e,h1,h2.stay hσ hS hw⟩⟩
def kvA (k : IntKind) (kv : List (Int × AV)) : List (AV × AV):=kv.map fun p=>(.int k p.1,p.2)
def leftE (es : Array MapEntry) (seen : Array Nat) : List MapEntry:=es.toList.filter fun e=>!seen.contains e.born
def TabCell (w : World) (v : Value) (x : AV) (o : Option (Nat × Nat)) : Prop :=
 (x.plain1 = true∧o = none∧v = x.toVal) ∨
 ∃ xs,x = .own 1 xs∧(∀ y ∈ xs,y.plain1 = true) ∧
  ((o = none∧xs = []∧∃ a,v = .slice a 0 0) ∨
   ∃ b' c' cs t,o = some (b',c')∧v = .slice (some ⟨b',0,none⟩) xs.length c'∧w.heap[b']? = some (.cells cs t (0,0))∧xs.length≤c'∧c'≤cs.size∧c'≤maxLen ∧
    ∀ (j : Nat) y,xs[j]? = some y → cs[j]? = some y.toVal)
def TabAt (w : World) (l : Loc) (sz : Nat) (es : List AV) : Prop :=
 ∃ b c inn cs t,l = .tab b sz es.length c inn∧w.heap[b]? = some (.cells cs t (0,0))∧c * sz≤cs.size∧es.length≤c∧c≤maxLen∧0 < sz∧(∀ e ∈ es,e.cells.length = sz) ∧
  inn.length = es.length * sz∧l.blocks.Nodup∧∀ (i : Nat) x o,(flat es)[i]? = some x → inn[i]? = some o → ∃ v,cs[i]? = some v∧TabCell w v x o
theorem TabAt.stay {w w' : World} {l : Loc} {sz : Nat} {es : List AV} (hb : ∀ b ∈ l.blocks,w'.heap[b]? = w.heap[b]?) (h : TabAt w l sz es) : TabAt w' l sz es:=by
 obtain ⟨b,c,inn,cs,t,rfl,h2,h3,h4,h5,h6,h7,h8,h9,h10⟩:=h;refine ⟨b,c,inn,cs,t,rfl,by rw [hb b (by simp [Loc.blocks])]; exact h2,h3,h4,h5,h6,h7,h8,h9,fun i x o hx ho => ?_⟩
 obtain ⟨v,hv,hc⟩:=h10 i x o hx ho;refine ⟨v,hv,?_⟩;rcases hc with hc | ⟨xs,q1,q2,q3⟩
 ·exact .inl hc
 ·refine .inr ⟨xs,q1,q2,?_⟩
  rcases q3 with q3 | ⟨b',c',cs',t',r1,r2,r3,r4⟩
  ·exact .inl q3
  ·refine .inr ⟨b',c',cs',t',r1,r2,?_,r4⟩
   rw [hb b' ?_]
   ·exact r3
   ·subst r1
    simp only [Loc.blocks,List.mem_cons,List.mem_filterMap];exact .inr ⟨some (b',c'),List.mem_of_getElem? ho,rfl⟩
def RowOk (P : Program) (Γ : Gam) (σ : Ids) (S : Nat → Prop) (w : World) (id : Nat) : Row → Prop
 | .arr sz es => (σ id = some .virt∧es = []) ∨
   ∃ b c cs t,σ id = some (.row b sz es.length c)∧w.heap[b]? = some (.cells cs t (0,0))∧c * sz≤cs.size∧es.length≤c∧c≤maxLen∧0 < sz ∧
    (∀ e ∈ es,Elem sz e)∧∀ (i : Nat) x,(flat es)[i]? = some x → ∃ v,cs[i]? = some v∧RelI S w v x
 | .box xs => ∃ b cs t,σ id = some (.row b xs.length 1 1)∧w.heap[b]? = some (.cells cs t (0,0))∧cs.size = xs.length∧(∀ x ∈ xs,x.scalar = true) ∧
    ∀ (i : Nat) x,xs[i]? = some x → ∃ v,cs[i]? = some v∧RelV σ S w v x
 | .mp k kv => ∃ r es clock,σ id = some (.map r)∧w.heap[r]? = some (.map es clock)∧es.size = kv.length∧∀ (i : Nat) x,kv[i]? = some x → ∃ e,es[i]? = some e∧e.key = .int k x.1∧RelI S w e.val x.2∧x.2.mpVal = true
 | .mpS ks keys vals => ∃ r es clock,σ id = some (.map r)∧w.heap[r]? = some (.map es clock)∧EntP ks es clock keys vals
 | .mpE ks keys vals i s => ∃ r es clock n,σ id = some (.map r)∧w.heap[r]? = some (.map es clock)∧σ s = some (.stamp n)∧EntE ks es clock keys vals i n
 | .mpV k kv => ∃ r es clock,σ id = some (.map r)∧w.heap[r]? = some (.map es clock)∧(es.toList.map (·.born)).Nodup∧(∀ e ∈ es.toList,e.born < clock)∧EntsV σ S w es.toList (kvA k kv)
 | .iter left cur => ∃ r m es clock since c0 seen left',σ id = some (.iter r m)∧r ≠ m∧w.heap[r]? = some (.mapIter (some m) since seen c0)∧w.heap[m]? = some (.map es clock) ∧
   (es.toList.map (·.born)).Nodup∧(∀ e ∈ es.toList,e.born < since)∧since≤c0∧since≤clock∧left.Perm left'∧EntsV σ S w (leftE es seen) left' ∧
   ∀ x,cur = some x → c0 = clock∧∃ e ∈ es.toList,seen.back? = some e.born∧EntV σ S w e x
 | .tab sz es => (σ id = some .virt∧es = []) ∨ ∃ l,σ id = some l∧TabAt w l sz es
 | .num m => ∃ l C,σ id = some (.tag l)∧σ m = some (.gen l C)
 | .log k xs => ∃ l C,σ id = some (.gen l C)∧GoodY P l (Γ l)∧C.Nodup∧(∀ b ∈ C,b < w.heap.size)∧Keep (Γ l)∧Γ l k xs C S w
def Loc.has (l : Option Loc) (b : Nat) : Prop:=∃ l',l = some l'∧b ∈ l'.blocks
theorem has_row {σ : Ids} {id b sz n c : Nat} (h : σ id = some (.row b sz n c)) : Loc.has (σ id) b:=⟨_,h,List.mem_singleton.2 rfl⟩
theorem has_map {σ : Ids} {id r : Nat} (h : σ id = some (.map r)) : Loc.has (σ id) r:=⟨_,h,List.mem_singleton.2 rfl⟩
theorem row_has {σ : Ids} {id b sz n c x : Nat} (h : σ id = some (.row b sz n c)) (hx : Loc.has (σ id) x) : x = b:=by
 obtain ⟨l,hl,hb⟩:=hx;rw [h] at hl; cases hl
 exact List.mem_singleton.1 hb
theorem map_has {σ : Ids} {id r x : Nat} (h : σ id = some (.map r)) (hx : Loc.has (σ id) x) : x = r:=by
 obtain ⟨l,hl,hb⟩:=hx;rw [h] at hl; cases hl
 exact List.mem_singleton.1 hb
theorem RowOk.stay {P : Program} {Γ : Gam} {σ σ' : Ids} {S S' : Nat → Prop} {w w' : World} (hσ : σ.le σ') (hS : ∀ b,S b → S' b) (hw : Stay S w w') (hz : w.heap.size≤w'.heap.size) {id : Nat} {r : Row}
  (hb : ∀ b,Loc.has (σ id) b → w'.heap[b]? = w.heap[b]?) (h : RowOk P Γ σ S w id r) : RowOk P Γ σ' S' w' id r:=by
 cases r with
 | arr sz es =>
  rcases h with ⟨h1,h2⟩ | ⟨b,c,cs,t,h1,h2,h3,h4,h4',h5,h6,h7⟩
  ·exact .inl ⟨hσ _ _ h1,h2⟩
  ·refine .inr ⟨b,c,cs,t,hσ _ _ h1,by rw [hb b (has_row h1)]; exact h2,h3,h4,h4',h5,h6,fun i x hx => ?_⟩
   obtain ⟨v,hv,hr⟩:=h7 i x hx;exact ⟨v,hv,hr.stay hS hw⟩
 | box xs =>
  obtain ⟨b,cs,t,h1,h2,h3,h4,h5⟩:=h;refine ⟨b,cs,t,hσ _ _ h1,by rw [hb b (has_row h1)]; exact h2,h3,h4,fun i x hx => ?_⟩
  obtain ⟨v,hv,hr⟩:=h5 i x hx;exact ⟨v,hv,hr.stay hσ hS hw⟩
 | mp k kv =>
  obtain ⟨r,es,clock,h1,h2,h3,h4⟩:=h;refine ⟨r,es,clock,hσ _ _ h1,by rw [hb r (has_map h1)]; exact h2,h3,fun i x hx => ?_⟩
  obtain ⟨e,he,hk,hr,hp⟩:=h4 i x hx;exact ⟨e,he,hk,hr.stay hS hw,hp⟩
 | mpS ks keys vals =>
  obtain ⟨r,es,clock,h1,h2,h3⟩:=h;exact ⟨r,es,clock,hσ _ _ h1,by rw [hb r (has_map h1)]; exact h2,h3⟩
 | mpV k kv =>
  obtain ⟨r,es,clock,h1,h2,h3,h4,h5⟩:=h;exact ⟨r,es,clock,hσ _ _ h1,by rw [hb r (has_map h1)]; exact h2,h3,h4,h5.stay hσ hS hw⟩
 | mpE ks keys vals i s =>
  obtain ⟨r,es,clock,n,h1,h2,h3,h4⟩:=h;exact ⟨r,es,clock,n,hσ _ _ h1,by rw [hb r (has_map h1)]; exact h2,hσ _ _ h3,h4⟩
 | iter left cur =>
  obtain ⟨r,m,es,clock,since,c0,seen,left',h1,h0,h2,h3,h4,h5,h6,h7,hp,h8,h9⟩:=h;refine ⟨r,m,es,clock,since,c0,seen,left',hσ _ _ h1,h0,by rw [hb r ⟨_,h1,by simp [Loc.blocks]⟩]; exact h2,by rw [hb m ⟨_,h1,by simp [Loc.blocks]⟩]; exact h3,h4,h5,h6,h7,hp,h8.stay hσ hS hw,fun x hx => ?_⟩
  obtain ⟨q1,e,q2,q3,q4⟩:=h9 x hx;exact ⟨q1,e,q2,q3,q4.stay hσ hS hw⟩
 | num m =>
  obtain ⟨l,C,h1,h2⟩:=h;exact ⟨l,C,hσ _ _ h1,hσ _ _ h2⟩
 | tab sz es =>
  rcases h with ⟨h1,h2⟩ | ⟨l,h1,h2⟩
  ·exact .inl ⟨hσ _ _ h1,h2⟩
  ·exact .inr ⟨l,hσ _ _ h1,h2.stay fun b hb' => hb b ⟨l,h1,hb'⟩⟩
 | log k xs =>
  obtain ⟨l,C,h1,hg,hn,hl,h2,h3⟩:=h;exact ⟨l,C,hσ _ _ h1,hg,hn,fun b hb => Nat.lt_of_lt_of_le (hl b hb) hz,h2,h2 _ _ _ _ _ _ _ h3 hS (fun b hc => hb b ⟨_,h1,hc⟩) hw hz⟩
theorem RowOk.mono {P : Program} {Γ : Gam} {σ σ' : Ids} {S S' : Nat → Prop} {w w' : World} (hσ : σ.le σ') (hS : ∀ b,S b → S' b) (hw : ∀ b,S b → w'.heap[b]? = w.heap[b]?) (hz : w.heap.size≤w'.heap.size) {id : Nat} {r : Row}
  (hb : ∀ b,Loc.has (σ id) b → w'.heap[b]? = w.heap[b]?) (h : RowOk P Γ σ S w id r) : RowOk P Γ σ' S' w' id r:=h.stay hσ hS (.heap hw) hz hb
structure RowsOk (P : Program) (Γ : Gam) (Own : Nat → Prop) (σ : Ids) (S : Nat → Prop) (w : World) (R : Nat → Option Row) : Prop where
 ok : ∀ id r,R id = some r → RowOk P Γ σ S w id r
 apart : ∀ id r b,R id = some r → Loc.has (σ id) b → ¬ S b∧Own b
 inj : ∀ id id' r r' b,R id = some r → R id' = some r' → Loc.has (σ id) b → Loc.has (σ id') b → id = id'
 old : ∀ b,S b → b < w.heap.size
theorem Same.refl (w : World) : Same w w:=⟨rfl,rfl,rfl,Nat.le_refl _⟩
theorem Same.trans {a b c : World} (h : Same a b) (h' : Same b c) : Same a c :=
 ⟨h'.os.trans h.os,h'.tape.trans h.tape,h'.output.trans h.output,Nat.le_trans h.size h'.size⟩
structure Ext (Own : Nat → Prop) (σ : Ids) (S : Nat → Prop) (w : World) (σ' : Ids) (S' : Nat → Prop) (w' : World) : Prop where
 ids : σ.le σ'
 imm : ∀ b,S b → S' b
 keep : ∀ b,S b → w'.heap[b]? = w.heap[b]?
 frame : ∀ b,¬ Own b → w'.heap[b]? = w.heap[b]?
 same : Same w w'
 bound : ∀ b,S' b → S b ∨ Own b
theorem Ids.le_refl (σ : Ids) : σ.le σ:=fun _ _ h => h
theorem Ext.refl (Own : Nat → Prop) (σ : Ids) (S : Nat → Prop) (w : World) : Ext Own σ S w σ S w :=
 ⟨Ids.le_refl σ,fun _ h => h,fun _ _ => rfl,fun _ _ => rfl,Same.refl w,fun _ h => .inl h⟩
theorem Ext.trans {Own : Nat → Prop} {σ σ' σ'' : Ids} {S S' S'' : Nat → Prop} {w w' w'' : World} (h : Ext Own σ S w σ' S' w') (h' : Ext Own σ' S' w' σ'' S'' w'') : Ext Own σ S w σ'' S'' w'' :=
 ⟨fun id l hl => h'.ids id l (h.ids id l hl),fun b hb => h'.imm b (h.imm b hb),fun b hb => (h'.keep b (h.imm b hb)).trans (h.keep b hb),
  fun b hb => (h'.frame b hb).trans (h.frame b hb),h.same.trans h'.same,fun b hb => (h'.bound b hb).elim (h.bound b) .inr⟩
theorem RelV.ext {Own : Nat → Prop} {σ σ' : Ids} {S S' : Nat → Prop} {w w' : World} (e : Ext Own σ S w σ' S' w') {v : Value} {a : AV} (h : RelV σ S w v a) : RelV σ' S' w' v a :=
 h.mono e.ids e.imm e.keep
theorem RelI.ext {Own : Nat → Prop} {σ σ' : Ids} {S S' : Nat → Prop} {w w' : World} (e : Ext Own σ S w σ' S' w') {v : Value} {a : AV} (h : RelI S w v a) : RelI S' w' v a :=
 h.mono e.imm e.keep
def updR : List (Nat × Option Row) → (Nat → Option Row) → Nat → Option Row
 | [],R => R
 | (i,r) :: wr,R => fun k=>if i = k then r else updR wr R k
theorem lk_del {α : Type} (i k : Nat) (l : List (Nat × α)) : lk k (del i l) = if i = k then none else lk k l:=by
 induction l with
 | nil => simp [del,lk]
 | cons p l ih =>
  obtain ⟨j,v⟩:=p;simp only [del];split
  ·rename_i h
   subst h;rw [ih];by_cases h2 : j = k
   ·simp [h2]
   ·simp [h2,lk]
  ·rename_i h
   simp only [lk];split
   ·rename_i h2
    subst h2;simp [Ne.symm h]
   ·exact ih
theorem lk_updRows (wr : List (Nat × Option Row)) (rows : List (Nat × Row)) (k : Nat) : lk k (updRows wr rows) = updR wr (fun i=>lk i rows) k:=by
 induction wr with
 | nil => rfl
 | cons p wr ih =>
  obtain ⟨i,r⟩:=p;cases r with
  | none => simp only [updRows,updR,lk_del,ih]
  | some r =>
   simp only [updRows,updR,lk,lk_del,ih];split
   ·rfl
   ·rfl
theorem AV.scalar_cells {a : AV} (h : a.scalar = true) : a.cells = [a]:=by
 cases a <;> simp_all [AV.scalar,AV.cells]
theorem RelI.oneCell {S : Nat → Prop} {w : World} {v : Value} {a : AV} (h : RelI S w v a) (hs : a.scalar = true) : v.oneCell' = true:=by
 cases h <;> simp_all [AV.scalar,Value.oneCell']
theorem RelV.oneCell {σ : Ids} {S : Nat → Prop} {w : World} {v : Value} {a : AV} (h : RelV σ S w v a) (hs : a.scalar = true) : v.oneCell' = true:=by
 cases h with
 | imm h => exact h.oneCell hs
 | _ => simp_all [AV.scalar,Value.oneCell']
theorem RelI.cells {S : Nat → Prop} {w : World} {v : Value} {a : AV} (h : RelI S w v a) (ha : a ≠ .any) (hc : ∀ u,a = .const u → u.oneCell' = true) :
  v.cells.size = a.cells.length∧∀ (i : Nat) x y,v.cells[i]? = some x → a.cells[i]? = some y → RelI S w x y:=by
 have one : ∀ {v : Value} {a : AV},RelI S w v a → v.cells = #[v] → a.cells = [a] → v.cells.size = a.cells.length∧∀ (i : Nat) x y,v.cells[i]? = some x → a.cells[i]? = some y → RelI S w x y:=by
  intro v a h h1 h2;rw [h1,h2];refine ⟨rfl,fun i x y hx hy => ?_⟩
  cases i with
  | zero => simp at hx hy; subst hx hy; exact h
  | succ i => simp at hx
 cases h with
 | any v => exact absurd rfl ha
 | const v =>
  refine one (.const v) ?_ rfl;have:=hc v rfl;cases v <;> simp_all [Value.cells,Value.oneCell']
 | agg vs cs hl hr => exact ⟨hl,hr⟩
 | int k n => exact one (.int k n) rfl rfl
 | bool b => exact one (.bool b) rfl rfl
 | nil a sz => exact one (.nil a sz) rfl rfl
 | list0 a cap sz => exact one (.list0 a cap sz) rfl rfl
 | list b o sz cap es f hb hcap he hc' hr => exact one (.list b o sz cap es f hb hcap he hc' hr) rfl rfl
 | iptr b o off e f hb he hc' hr => exact one (.iptr b o off e f hb he hc' hr) rfl rfl
 | clip0 a sz => exact one (.clip0 a sz) rfl rfl
 | clip b o sz es f hb he hc' hr => exact one (.clip b o sz es f hb he hc' hr) rfl rfl
 | func f vs cs hl hr => exact one (.func f vs cs hl hr) rfl rfl
 | meth f v b hb => exact one (.meth f v b hb) rfl rfl
 | mapI r k keys vals es clock hb hh hs he => exact one (.mapI r k keys vals es clock hb hh hs he) rfl rfl
theorem RelV.cells {σ : Ids} {S : Nat → Prop} {w : World} {v : Value} {a : AV} (h : RelV σ S w v a) (hs : ∀ c ∈ a.cells,c.scalar = true) :
  v.cells.size = a.cells.length∧∀ (i : Nat) x y,v.cells[i]? = some x → a.cells[i]? = some y → RelV σ S w x y:=by
 have one : ∀ {v : Value} {a : AV},RelV σ S w v a → v.cells = #[v] → a.cells = [a] → v.cells.size = a.cells.length∧∀ (i : Nat) x y,v.cells[i]? = some x → a.cells[i]? = some y → RelV σ S w x y:=by
  intro v a h h1 h2;rw [h1,h2];refine ⟨rfl,fun i x y hx hy => ?_⟩
  cases i with
  | zero => simp at hx hy; subst hx hy; exact h
  | succ i => simp at hx
 cases h with
 | imm h =>
  have:=h.cells (by rintro rfl; simp [AV.cells,AV.scalar] at hs) (by rintro u rfl; simpa [AV.cells,AV.scalar] using hs)
  exact ⟨this.1,fun i x y hx hy => .imm (this.2 i x y hx hy)⟩
 | agg vs cs hl hr => exact ⟨hl,hr⟩
 | tuple vs cs hl hr => simp [AV.cells,AV.scalar] at hs
 | sliceV id a h => exact one (.sliceV id a h) rfl rfl
 | slice id off len cap b sz n c a h h1 h2 h3 h4 => exact one (.slice id off len cap b sz n c a h h1 h2 h3 h4) rfl rfl
 | ptr id idx off b sz n c h h1 => exact one (.ptr id idx off b sz n c h h1) rfl rfl
 | mapp id r h => exact one (.mapp id r h) rfl rfl
 | yieldV q l h => exact one (.yieldV q l h) rfl rfl
 | itV id r m h => exact one (.itV id r m h) rfl rfl
 | stampV id n h => exact one (.stampV id n h) rfl rfl
 | tabV id a h => exact one (.tabV id a h) rfl rfl
 | tabS id b sz n c inn h => exact one (.tabS id b sz n c inn h) rfl rfl
 | tabP id idx off b sz n c inn h h1 => exact one (.tabP id idx off b sz n c inn h h1) rfl rfl
 | inS id p len b sz n c inn b' c' h h1 h2 => exact one (.inS id p len b sz n c inn b' c' h h1 h2) rfl rfl
 | in0 id p b sz n c inn a h h1 => exact one (.in0 id p b sz n c inn a h h1) rfl rfl
 | inP id p j b sz n c inn b' c' h h1 => exact one (.inP id p j b sz n c inn b' c' h h1) rfl rfl
 | func f vs cs hl hr => exact one (.func f vs cs hl hr) rfl rfl
 | meth f v b hb => exact one (.meth f v b hb) rfl rfl
theorem flat_length {sz : Nat} {es : List AV} (h : ∀ e ∈ es,Elem sz e) : (flat es).length = es.length * sz:=by
 induction es with
 | nil => simp [flat]
 | cons e es ih =>
  have h1:=(h e (List.mem_cons_self ..)).1;have h2:=ih fun e he => h e (List.mem_cons_of_mem _ he)
  simp only [flat,List.flatMap_cons,List.length_append,List.length_cons] at h2 ⊢;rw [h1,h2,Nat.add_mul]; omega
theorem flat_get {sz : Nat} {es : List AV} (h : ∀ e ∈ es,Elem sz e) {i j : Nat} {e : AV} (he : es[i]? = some e) (hj : j < sz) : (flat es)[i * sz + j]? = e.cells[j]?:=by
 induction es generalizing i with
 | nil => simp at he
 | cons x es ih =>
  have hx:=(h x (List.mem_cons_self ..)).1;have h2 : ∀ e ∈ es,Elem sz e:=fun e he => h e (List.mem_cons_of_mem _ he)
  cases i with
  | zero =>
   simp at he; subst he
   simp only [flat,List.flatMap_cons,Nat.zero_mul,Nat.zero_add];rw [List.getElem?_append_left (by omega)]
  | succ i =>
   simp only [List.getElem?_cons_succ] at he;have:=ih h2 he;simp only [flat,List.flatMap_cons] at this ⊢;rw [List.getElem?_append_right (by rw [hx,Nat.add_mul]; omega),hx,← this]
   congr 1
   rw [Nat.add_mul]; omega
theorem flat_append (a b : List AV) : flat (a ++ b) = flat a ++ flat b:=by simp [flat]
theorem flat_take {sz : Nat} {es : List AV} (h : ∀ e ∈ es,Elem sz e) (k : Nat) : flat (es.take k) = (flat es).take (k * sz):=by
 induction es generalizing k with
 | nil => simp [flat]
 | cons x es ih =>
  have hx:=(h x (List.mem_cons_self ..)).1;have h2 : ∀ e ∈ es,Elem sz e:=fun e he => h e (List.mem_cons_of_mem _ he)
  cases k with
  | zero => simp [flat]
  | succ k =>
   have:=ih h2 k;simp only [flat,List.take_succ_cons,List.flatMap_cons] at this ⊢;have e1 : x.cells.take ((k + 1) * sz) = x.cells:=List.take_of_length_le (by rw [hx,Nat.add_mul]; omega)
   have e2 : (k + 1) * sz - sz = k * sz:=by rw [Nat.add_mul]; omega
   rw [List.take_append,this,hx,e1,e2]
theorem flat_drop {sz : Nat} {es : List AV} (h : ∀ e ∈ es,Elem sz e) (k : Nat) : flat (es.drop k) = (flat es).drop (k * sz):=by
 induction es generalizing k with
 | nil => simp [flat]
 | cons x es ih =>
  have hx:=(h x (List.mem_cons_self ..)).1;have h2 : ∀ e ∈ es,Elem sz e:=fun e he => h e (List.mem_cons_of_mem _ he)
  cases k with
  | zero => simp [flat]
  | succ k =>
   have:=ih h2 k;simp only [flat,List.drop_succ_cons,List.flatMap_cons] at this ⊢;have e1 : x.cells.drop ((k + 1) * sz) = []:=List.drop_eq_nil_of_le (by rw [hx,Nat.add_mul]; omega)
   have e2 : (k + 1) * sz - sz = k * sz:=by rw [Nat.add_mul]; omega
   rw [List.drop_append,this,hx,e1,e2,List.nil_append]
end Go.Abs
