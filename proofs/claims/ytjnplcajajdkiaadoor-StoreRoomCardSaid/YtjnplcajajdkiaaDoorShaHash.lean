/- What is summed: the object, New, none, Len, Write. -/
import Derived.Test.YtjnplcajajdkiaaDoorShaTurn
import Derived.Test.YtjnplcajajdkiaaDoorCutKit
import Derived.Conc.SmallLaws
namespace Go.Proofs.YtjnplcajajdkiaaDoor.sha
open Go.RowKit
open Go.Proofs.YtjnplcajajdkiaaDoor.stepkit Go.Proofs.YtjnplcajajdkiaaDoor.obj Go.Proofs.YtjnplcajajdkiaaDoor.row Go.Proofs.YtjnplcajajdkiaaDoor.mix Go.Proofs.YtjnplcajajdkiaaDoor.idkit

def FirstAt (w : World) : Prop := w.rangeAt 0 0 (arr 8 first)
theorem FirstAt.lt {w : World} (h : FirstAt w) : 0 < w.heap.size := lt_of_cell' (h 0 _ (arr_get 8 first 0 (by decide)))
theorem FirstAt.turns {w w' : World} {F : Nat → Prop} (h : FirstAt w) (ht : Turns F w w') (hn : ¬ F 0) : FirstAt w' := fun i v hi => (ht.cell (p := ⟨0, 0 + i, none⟩) h.lt hn).trans (h i v hi)
/-- The package's two tables. -/
structure Tabs (w : World) : Prop where
  k : KAt w
  first : FirstAt w
/-- Blocks that are none of the tables. -/
def off (F : Nat → Prop) : Prop := ¬ F 1 ∧ ¬ F 0
theorem off_none : off nobody := ⟨fun h => h, fun h => h⟩
theorem Tabs.turns {w w' : World} {F : Nat → Prop} (h : Tabs w) (ht : Turns F w w') (hn : off F) : Tabs w' := ⟨h.k.turns ht hn.1, h.first.turns ht hn.2⟩
theorem Tabs.below {w w' : World} {B : Nat} (h : Tabs w) (hb : Below B w w') (hB : 1 < B ∧ 0 < B) : Tabs w' :=
  ⟨fun i hi => (hb.cell (p := ⟨1, i, none⟩) hB.1).trans (h.k i hi), fun i v hi => (hb.cell (p := ⟨0, 0 + i, none⟩) hB.2).trans (h.first i v hi)⟩

def hmk (v : Nat → W32) (n : Nat) (r : Value) : Array Value := (arr 8 v ++ [r, .int .i64 n, .bool true]).toArray
/-- Words, a number, and what is left. -/
def HX (p : Nat) (v : Nat → W32) (n : Nat) (rl : List UInt8) : (Nat → Prop) → World → Prop := Box1 110 5 1 p (hmk v n) rl.length (bcs rl)
/-- What was written. -/
def HashAt (p : Nat) (l : List UInt8) : (Nat → Prop) → World → Prop := HX p (wordsOf l) l.length (restOf l)
theorem local_hx (p : Nat) (v : Nat → W32) (n : Nat) (rl : List UInt8) : Local (HX p v n rl) := local_box1 _ _ _ _ _ _ _
theorem local_hash (p : Nat) (l : List UInt8) : Local (HashAt p l) := local_box1 _ _ _ _ _ _ _
theorem hmk_set8 (v : Nat → W32) (n : Nat) (r r' : Value) : (hmk v n r).setIfInBounds 8 r' = hmk v n r' := by kernel_rfl
theorem hmk_set9 (v : Nat → W32) (n m : Nat) (r : Value) : (hmk v n r).setIfInBounds 9 (.int .i64 m) = hmk v m r := by kernel_rfl
theorem hmk_get (v : Nat → W32) (n : Nat) (r : Value) : (hmk v n r)[8]? = some r ∧ (hmk v n r)[9]? = some (.int .i64 n) ∧ (hmk v n r)[10]? = some (.bool true) := ⟨by kernel_rfl, by kernel_rfl, by kernel_rfl⟩
theorem cells_of {w : World} {p : Nat} {cs : Array Value} {t : TypeId} (h : w.heap[p]? = some (.cells cs t (0, 0))) (i : Nat) (v : Value) (hv : cs[i]? = some v) : w.cell? ⟨p, i, none⟩ = some v := by simp [World.cell?, h, hv]
theorem free_of {w : World} {p : Nat} {cs : Array Value} {t : TypeId} (h : w.heap[p]? = some (.cells cs t (0, 0))) (i : Nat) : w.frozen? ⟨p, i, none⟩ = false := by simp [World.frozen?, h]

theorem build_new (f : Nat → W32) (w : World) : (Instr.build 110 #[(0, .agg (arr 8 f).toArray), (3, .bool true)]).run Tryd.prog w = .ok (.agg (hmk f 0 (.slice none 0 0))) w := by kernel_rfl

theorem none_no (p : Nat) (v : Nat → W32) (n : Nat) (rl : List UInt8) (F : Nat → Prop) (w : World) (h : HX p v n rl F w) :
    Calls Tryd.prog 60 #[.pointer (some ⟨p, 0, none⟩)] w fun e w' => e = .returned (.bool false) ∧ w = w' := by
  obtain ⟨r, hp, _⟩ := h
  have c10 := cells_of hp 10 _ (hmk_get _ _ _).2.2
  clear hp
  go_enter Tryd.func60, Tryd.ntmps60
  go_wp2
  go_ret
  exact ⟨rfl, rfl⟩
theorem none_zero (p : Nat) (w : World) (h : w.cell? ⟨p, 10, none⟩ = some (.bool false)) :
    Calls Tryd.prog 60 #[.pointer (some ⟨p, 0, none⟩)] w fun e w' => e = .returned (.bool true) ∧ w = w' := by
  go_enter Tryd.func60, Tryd.ntmps60
  go_wp2
  go_ret
  exact ⟨rfl, rfl⟩
theorem none_nil (w : World) :
    Calls Tryd.prog 60 #[.pointer none] w fun e w' => e = .returned (.bool true) ∧ w = w' := by
  go_enter Tryd.func60, Tryd.ntmps60
  go_wp2
  go_ret
  exact ⟨rfl, rfl⟩
theorem new_any (w : World) (hf : FirstAt w) :
    Calls Tryd.prog 52 #[] w fun e w' => e = .returned (.pointer (some ⟨w.heap.size, 0, none⟩)) ∧ w' = w.alloc (.cells (hmk first 0 (.slice none 0 0)) 110) := by
  have HF : Hid (w.rangeAt 0 0 (arr 8 first)) := Lib.hid hf
  have SZ := Lib.hid (size8 first)
  have HB := Lib.hid (build_new first)
  have hfl := hf.lt
  clear hf
  go_enter Tryd.func52, Tryd.ntmps52
  go_wp2_with first
    | (with_reducible refine wpList_load_mid rfl _ _ rfl _ _ rfl _ _ HF.out Tryd.underlying68 rfl SZ.out ?_)
    | (with_reducible refine wpList_exec (exec_build _ _ rfl #[(0, .agg (arr 8 first).toArray), (3, .bool true)] (by kernel_rfl) (HB.out _)) (by first | rfl | go_simp) ?_)
  go_ret
  exact ⟨rfl, rfl⟩
theorem new_hash (w : World) : HashAt w.heap.size [] (fun i => i = w.heap.size ∨ blk (.slice none 0 0) i) (w.alloc (.cells (hmk first 0 (.slice none 0 0)) 110)) := Box1.fresh (mk := hmk first 0)
end Go.Proofs.YtjnplcajajdkiaaDoor.sha
