/- The reference's first words and rounds' words; bytes of a text. -/
import Derived.Test.YtjnplcajajdkiaaDoorShaText
import Derived.Test.YtjnplcajajdkiaaDoorSlG
namespace Go.Proofs.YtjnplcajajdkiaaDoor.sha
open Go.RowKit
open Go.Proofs.YtjnplcajajdkiaaDoor.stepkit Go.Proofs.YtjnplcajajdkiaaDoor.obj Go.Proofs.YtjnplcajajdkiaaDoor.row Go.Proofs.YtjnplcajajdkiaaDoor.mix Go.Proofs.YtjnplcajajdkiaaDoor.idkit

theorem build_first (w : World) : (Instr.build 68 #[(0, .int .u32 1779033703), (1, .int .u32 3144134277), (2, .int .u32 1013904242), (3, .int .u32 2773480762), (4, .int .u32 1359893119), (5, .int .u32 2600822924), (6, .int .u32 528734635), (7, .int .u32 1541459225)]).run Tryd.prog w = .ok (.agg (arr 8 first).toArray) w := by kernel_rfl
def kvals : Array (Nat × Value) := #[(0, .int .u32 1116352408), (1, .int .u32 1899447441), (2, .int .u32 3049323471), (3, .int .u32 3921009573), (4, .int .u32 961987163), (5, .int .u32 1508970993), (6, .int .u32 2453635748), (7, .int .u32 2870763221), (8, .int .u32 3624381080), (9, .int .u32 310598401), (10, .int .u32 607225278), (11, .int .u32 1426881987), (12, .int .u32 1925078388), (13, .int .u32 2162078206), (14, .int .u32 2614888103), (15, .int .u32 3248222580), (16, .int .u32 3835390401), (17, .int .u32 4022224774), (18, .int .u32 264347078), (19, .int .u32 604807628), (20, .int .u32 770255983), (21, .int .u32 1249150122), (22, .int .u32 1555081692), (23, .int .u32 1996064986), (24, .int .u32 2554220882), (25, .int .u32 2821834349), (26, .int .u32 2952996808), (27, .int .u32 3210313671), (28, .int .u32 3336571891), (29, .int .u32 3584528711), (30, .int .u32 113926993), (31, .int .u32 338241895), (32, .int .u32 666307205), (33, .int .u32 773529912), (34, .int .u32 1294757372), (35, .int .u32 1396182291), (36, .int .u32 1695183700), (37, .int .u32 1986661051), (38, .int .u32 2177026350), (39, .int .u32 2456956037), (40, .int .u32 2730485921), (41, .int .u32 2820302411), (42, .int .u32 3259730800), (43, .int .u32 3345764771), (44, .int .u32 3516065817), (45, .int .u32 3600352804), (46, .int .u32 4094571909), (47, .int .u32 275423344), (48, .int .u32 430227734), (49, .int .u32 506948616), (50, .int .u32 659060556), (51, .int .u32 883997877), (52, .int .u32 958139571), (53, .int .u32 1322822218), (54, .int .u32 1537002063), (55, .int .u32 1747873779), (56, .int .u32 1955562222), (57, .int .u32 2024104815), (58, .int .u32 2227730452), (59, .int .u32 2361852424), (60, .int .u32 2428436474), (61, .int .u32 2756734187), (62, .int .u32 3204031479), (63, .int .u32 3329325298)]
theorem build_consts (w : World) : (Instr.buildSlice 70 64 kvals).run Tryd.prog w = .ok (.slice (some ⟨w.heap.size, 0, none⟩) 64 64) (w.alloc (.cells (arr 64 kAt).toArray 67)) := by kernel_rfl

set_option maxRecDepth 10000 in
theorem start_any (w : World) : Calls Tryd.prog 29 #[] w fun e w' => e = .returned (.agg (arr 8 first).toArray) ∧ Turns nobody w w' := by
  obtain ⟨H, hH⟩ : ∃ H, w.heap.size = H := ⟨_, rfl⟩
  have HB := Lib.hid build_first
  go_enter Tryd.func29, Tryd.ntmps29
  go_wp2_with first
    | (refine wpList_exec (exec_build _ _ rfl #[(0, .int .u32 1779033703), (1, .int .u32 3144134277), (2, .int .u32 1013904242), (3, .int .u32 2773480762), (4, .int .u32 1359893119), (5, .int .u32 2600822924), (6, .int .u32 528734635), (7, .int .u32 1541459225)] (by with_unfolding_all rfl) (HB.out _)) (by first | rfl | go_simp) ?_)
    | ((with_reducible refine at_alloc ?_); refine wpList_new8 rfl _ _ _ rfl first hH rfl rfl info8 ?_; intro w5 t5 a5 z5)
  refine bodyPost_ret (results_one rfl _ _ rfl a5.range Tryd.underlying68 rfl (size8 _)) rfl ?_
  exact ⟨rfl, t5⟩
set_option maxRecDepth 10000 in
theorem consts_any (w : World) : Calls Tryd.prog 30 #[] w fun e w' => e = .returned (.slice (some ⟨w.heap.size, 0, none⟩) 64 64) ∧ w' = w.alloc (.cells (arr 64 kAt).toArray 67) := by
  have HB := Lib.hid build_consts
  go_enter Tryd.func30, Tryd.ntmps30
  go_upto_region 1 with fail
  go_wp2_with (refine wpList_build_run rfl _ _ _ rfl kvals (by kernel_rfl) (HB.out _) ?_)
  go_ret
  exact ⟨rfl, rfl⟩
theorem conv_slG (w : World) (s : ByteArray) (hs : s.size ≤ maxLen) : ∃ cap W', (convert 9 64 (.string s)).run Tryd.prog w = .ok (.slice (some ⟨w.heap.size, 0, none⟩) s.size cap) W' ∧ SlG W' 5 1 (.slice (some ⟨w.heap.size, 0, none⟩) s.size cap) s.size (bcs s.data.toList) ∧ Turns nobody w W' := by
  refine ⟨_, _, run_bytes_of_string (P := Tryd.prog) w 9 64 5 s Tryd.underlying9 Tryd.underlying64 Tryd.underlying5, ⟨?_, Or.inr ⟨w.heap.size, 0, _, _, _, rfl, heap_alloc_new w.drew _, fun i hi => ?_, grownCap_ge w s.size 0 _, grownCap_le_maxLen w s.size 0 _ hs, ?_, ?_⟩⟩, (Turns.refl _ _).drew.alloc _⟩
  · rw [bcs_len]; simp
  · have hh : (w.drew.alloc (.cells (bytesRow s (grownCap w s.size 0 5)) 5 ((bytesRow s (grownCap w s.size 0 5)).size, (bytesRow s (grownCap w s.size 0 5)).size + 1))).heap[w.heap.size]? = some _ := heap_alloc_new w.drew _
    simp only [World.frozen?, hh]
    simp; omega
  · have hge := grownCap_ge w s.size 0 5
    unfold bytesRow
    simp only [Array.size_append, Array.size_map, Array.size_replicate]
    have : s.data.size = s.size := rfl
    omega
  · unfold bytesRow
    rw [List.drop_zero, Array.toList_append, Nat.mul_one, List.take_append_of_le_length (by simp), List.take_of_length_le (by simp)]
    simp [bcs, bc]
end Go.Proofs.YtjnplcajajdkiaaDoor.sha
