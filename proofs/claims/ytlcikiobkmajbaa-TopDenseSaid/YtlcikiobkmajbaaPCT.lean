/-
 TopDense: what it looks at is so, for all bytes.
-/
import Derived.Test.YtlcikiobkmajbaaPC
import Derived.Test.YtlcikiobkmajbaaKnU
import Derived.Test.YtlcikiobkmajbaaKnPy
import Derived.Test.YtlcikiobkmajbaaFlat
set_option linter.all false
namespace Go.Abs
set_option maxRecDepth 10000
theorem u16_wf {n : Int} (h : (Lit.int .u16 n).wf = true) : 0≤n∧n≤65535:=by
 simp [Lit.wf,IntKind.min,IntKind.max,IntKind.signed,IntKind.bits] at h;omega
theorem topDense_ok (v w : Arr (Fin 256) 4) (n : Int) (hn : 0≤n∧n≤65535) : lim F 6 [.agg (v.1.flatMap fun n=>[.int .u8 (n.1 : Int)]),.agg (w.1.flatMap fun n=>[.int .u8 (n.1 : Int)]),.int .u16 n] = some (.bool true,[]):=by
 obtain ⟨m,rfl⟩ : ∃ m : Nat,n = (m : Int):=⟨n.toNat,by omega⟩
 obtain ⟨vl,hv⟩:=v;obtain ⟨wl,hw⟩:=w
 match vl,hv,wl,hw with
 | [a,b,c,d],_,[e,f,g,h],_ => exact dense_main pubBeam_ok pubPay_ok a.1 b.1 c.1 d.1 e.1 f.1 g.1 h.1 m a.2 b.2 c.2 d.2 e.2 f.2 g.2 h.2 (by omega)
end Go.Abs
