/- MembersRun: the three ways together. -/
import Derived.Test.YtbmbaalidehoeaaDoorRunM
import Derived.Test.YtbmbaalidehoeaaDoorSizeB
namespace Go.Proofs.YtbmbaalidehoeaaDoor.K
open Go.RowKit
theorem lawRun_any (n : Int) (A1 : Option Addr) (c1 : Nat) (ps : List Int) (A2 : Option Addr) (c2 : Nat) (ss : List Int) (long : Int) (A3 : Option Addr) (c3 : Nat) (bs : List Int) (A4 : Option Addr) (c4 : Nat) (st : List Stn) (miss good fresh : Int) (cs : Array Value) (hv : VwOk cs) (A : Option Addr) (c : Nat) (xs : List Int) (w : World) (hc : CfgIn w A1 ps A2 ss A3 bs A4 st)
    (hr : RdV w A (xs.map (Value.int .u8))) (hx : ∀ x ∈ xs, 0 ≤ x ∧ x < 256) :
    Calls Tryd.prog 3 #[(.agg #[.int .i64 n, .slice A1 ps.length c1, .slice A2 ss.length c2, .int .i64 long, .slice A3 bs.length c3, .slice A4 st.length c4, .int .i64 miss, .int .i64 good, .int .i64 fresh]), .agg cs, .slice A xs.length c] w fun e w' => e = .returned (.bool true) ∧ Below w.heap.size w w' := by
  by_cases hb : newE ⟨n, ps, ss, long, bs, st, miss, good, fresh⟩ = 0
  · by_cases hl : xs.length ≤ 200
    · by_cases hm : mayB ps.length cs = true
      · exact lawRun_main n A1 c1 ps A2 c2 ss long A3 c3 bs A4 c4 st miss good fresh cs hv A c xs w hc hb hl hm hr hx
      · exact lawRun_out n A1 c1 ps A2 c2 ss long A3 c3 bs A4 c4 st miss good fresh cs hv A xs.length c w hc hb (.inr ⟨hl, by simpa using hm⟩)
    · exact lawRun_out n A1 c1 ps A2 c2 ss long A3 c3 bs A4 c4 st miss good fresh cs hv A xs.length c w hc hb (.inl (by omega))
  · exact lawRun_bad n A1 c1 ps A2 c2 ss long A3 c3 bs A4 c4 st miss good fresh cs A xs.length c w hc hb
end Go.Proofs.YtbmbaalidehoeaaDoor.K
