/- States: compared; by shape. -/
import Derived.Test.YthfkhallnbcopaaVS
import Derived.Test.YthfkhallnbcopaaWB
namespace Go.Proofs.Ythfkhallnbcopaa
open Go.RowKit

theorem implSameState_d (x0 : List Bool) (x1 : List (List Int)) (x2 : List Int) (y0 : List Bool) (y1 : List (List Int)) (y2 : List Int) {u0 u1 u2 v0 v1 v2 : Value} (w : World) (h0 : Rd Any w (dB x0) u0) (h1 : Rd Any w (dII x1) u1) (h2 : Rd Any w (dI x2) u2) (g0 : Rd Any w (dB y0) v0) (g1 : Rd Any w (dII y1) v1) (g2 : Rd Any w (dI y2) v2) :
    Calls Try.prog 51 #[.agg #[u0, u1, u2], .agg #[v0, v1, v2]] w (RetV w (.bool (sameSS x0 y0 x1 y1 x2 y2))) := by
  obtain ⟨_, _, rfl, kh0⟩ := Rd_B.1 h0
  obtain ⟨_, _, rfl, kh1⟩ := Rd_II.1 h1
  obtain ⟨_, _, rfl, kh2⟩ := Rd_I.1 h2
  obtain ⟨_, _, rfl, kg0⟩ := Rd_B.1 g0
  obtain ⟨_, _, rfl, kg1⟩ := Rd_II.1 g1
  obtain ⟨_, _, rfl, kg2⟩ := Rd_I.1 g2
  exact implSameState_c Any Any _ _ _ _ _ _ _ _ _ _ _ _ x0 y0 x1 y1 x2 y2 w kh0 kh1 kh2 kg0 kg1 kg2
theorem specSameState_d (x0 : List Bool) (x1 : List (List Int)) (x2 : List Int) (y0 : List Bool) (y1 : List (List Int)) (y2 : List Int) {u0 u1 u2 v0 v1 v2 : Value} (w : World) (h0 : Rd Any w (dB x0) u0) (h1 : Rd Any w (dII x1) u1) (h2 : Rd Any w (dI x2) u2) (g0 : Rd Any w (dB y0) v0) (g1 : Rd Any w (dII y1) v1) (g2 : Rd Any w (dI y2) v2) :
    Calls Try.prog 49 #[.agg #[u0, u1, u2], .agg #[v0, v1, v2]] w (RetV w (.bool (sameSS x0 y0 x1 y1 x2 y2))) := by
  obtain ⟨_, _, rfl, kh0⟩ := Rd_B.1 h0
  obtain ⟨_, _, rfl, kh1⟩ := Rd_II.1 h1
  obtain ⟨_, _, rfl, kh2⟩ := Rd_I.1 h2
  obtain ⟨_, _, rfl, kg0⟩ := Rd_B.1 g0
  obtain ⟨_, _, rfl, kg1⟩ := Rd_II.1 g1
  obtain ⟨_, _, rfl, kg2⟩ := Rd_I.1 g2
  exact specSameState_c Any Any _ _ _ _ _ _ _ _ _ _ _ _ x0 y0 x1 y1 x2 y2 w kh0 kh1 kh2 kg0 kg1 kg2
end Go.Proofs.Ythfkhallnbcopaa
