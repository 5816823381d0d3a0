/- Ids among a law's arguments. No function of the program in sight. -/
import Derived.Test.YtjnplcajajdkiaaDoorFlatKit
import Derived.Test.YtjnplcajajdkiaaDoorIdKit
namespace Go.Proofs.YtjnplcajajdkiaaDoor.idkit
open Go.RowKit
open Go.Proofs.YtjnplcajajdkiaaDoor.argkit

theorem fits_bytes : ∀ (n : Nat) {r : List Value}, Fits (List.replicate n (.int .u8)) r → ∃ id : List Int, r = idc id ∧ id.length = n
  | 0, r, h => ⟨[], Fits.nil h, rfl⟩
  | n + 1, r, h => by
    obtain ⟨v, r', rfl, ⟨x, rfl, _⟩, h'⟩ := Fits.cons h
    obtain ⟨id, rfl, hl⟩ := fits_bytes n h'
    exact ⟨x :: id, rfl, by simp [hl]⟩

theorem Fits.split {ks ms : List TypeDesc} {r : List Value} (h : Fits (ks ++ ms) r) : ∃ a b, r = a ++ b ∧ Fits ks a ∧ Fits ms b := by
  induction ks generalizing r with
  | nil => exact ⟨[], r, rfl, ⟨rfl, fun j kd hj => by simp at hj⟩, h⟩
  | cons k ks ih =>
    obtain ⟨v, r', rfl, hv, h'⟩ := argkit.Fits.cons h
    obtain ⟨a, b, rfl, ha, hb⟩ := ih h'
    refine ⟨v :: a, b, rfl, ⟨by simp [ha.1], fun j kd hj => ?_⟩, hb⟩
    cases j with
    | zero => cases hj; exact ⟨v, rfl, hv⟩
    | succ j => exact ha.2 j kd hj

end Go.Proofs.YtjnplcajajdkiaaDoor.idkit
