/- Slots: all that is told is the chapter's answer; one mode. -/
import Derived.Test.YtdpiikpodcanjaaSlotL
namespace Go.Proofs.Ytdpiikpodcanjaa
open Go.RowKit

set_option maxRecDepth 100000 in
set_option maxHeartbeats 8000000 in
theorem tells_1 (x y q i c a k f : Int) (w : World) (_bk : -9223372036854775808 ≤ k ∧ k ≤ 9223372036854775807) (_bf : -9223372036854775808 ≤ f ∧ f ≤ 9223372036854775807) :
    Calls Try.prog 33 #[.agg #[.int .i64 x, .int .i64 y, .int .i64 1, .int .i64 q, .int .i64 i, .int .i64 c], .int .i64 a, .int .i64 k, .int .i64 f] w fun e w' => e = .returned (.bool true) ∧ Below w.heap.size w w' := by
  obtain ⟨hk1, hk2⟩ := check_in x y 1 q i c
  go_enter Try.func33, Try.ntmps33
  go_wp2_with fail
  refine wp_region_calm (by kernel_rfl) (by kernel_rfl) ?_
  repeat (first | go_big_quiet_step ((first | (go_at_call 29; exact calm_call (check_ _ _ _ _ _ _ _)) | (go_at_call 53; exact calm_call (rcheck_ _ _ _ _ _ _ _)) | (go_at_call 38; exact calm_call (slot_ _ _ _ _ _ _ _)) | (go_at_call 54; exact calm_call (rslot_ _ _ _ _ _ _ _)) | (go_at_call 36; exact calm_call (room_ _ _ _ _ _ _ _)) | (go_at_call 55; exact calm_call (rroom_ _ _ _ _ _ _ _)))) | quiet_step ((first | (go_at_call 29; exact calm_call (check_ _ _ _ _ _ _ _)) | (go_at_call 53; exact calm_call (rcheck_ _ _ _ _ _ _ _)) | (go_at_call 38; exact calm_call (slot_ _ _ _ _ _ _ _)) | (go_at_call 54; exact calm_call (rslot_ _ _ _ _ _ _ _)) | (go_at_call 36; exact calm_call (room_ _ _ _ _ _ _ _)) | (go_at_call 55; exact calm_call (rroom_ _ _ _ _ _ _ _)))))
  refine wpQuiet_nil ?_
  intro u
  have hzu := u.below.size
  try simp at hzu
  go_wp2_with fail
  refine wp_region_hid 37 [⟨20, 50, fun x W => W.ownsRow 0 3 1 x 1 [.int .i64 0]⟩, ⟨23, 53, fun x W => W.ownsRow 0 3 1 x 1 [.int .i64 0]⟩] (by kernel_rfl) (by kernel_rfl) (by simp) (by simp) (by kernel_rfl) ?_ ?_
  · intro h hh x W W' hb hx
    simp only [List.mem_cons, List.not_mem_nil, or_false] at hh
    rcases hh with rfl | rfl
    all_goals first | exact hx | exact own_below hx hb | (obtain ⟨g, e, h1, h2⟩ := hx; exact ⟨g, e, h1, (hb.block g (lt_of_heap h2)).trans h2⟩)
  simp only [List.take_succ_cons, List.take_zero, List.drop_succ_cons, List.drop_zero]
  repeat (first | (refine wpHid_hid rfl rfl (fun X u hX K hK => ?_) ?_; (focus (have hzu := u.below.size; (try simp at hzu); (try simp only [fill, List.map_cons, List.map_nil, Act.put, List.setIfInBounds_toArray, List.set_cons_succ, List.set_cons_zero] at hK ⊢); go_step; first | (go_at_call 30; refine (parts_1 _).mono ?_; rintro e W ⟨v, rfl, hb, ho⟩; exact hK _ _ hb (own_zero ho)) | (go_at_call 59; refine (rparts_1 _).mono ?_; rintro e W ⟨v, rfl, hb, ho⟩; exact hK _ _ hb (own_zero ho)))); (try simp only [Act.put, List.setIfInBounds_toArray, List.set_cons_succ, List.set_cons_zero])) | (refine wpHid_next rfl rfl ?_; apply Exists.intro; refine ⟨fun X u hX K hK => ?_, ?_⟩; (focus (have hzu := u.below.size; (try simp at hzu); (try (refine imp_elim (hX _ List.mem_cons_self) ?_ ?_; (focus (show (50 : Nat) ∈ _; decide +kernel)); intro hO0)); (try (refine imp_elim (hX _ (List.mem_cons_of_mem _ List.mem_cons_self)) ?_ ?_; (focus (show (53 : Nat) ∈ _; decide +kernel)); intro hO1)); (try simp only [fill, List.map_cons, List.map_nil, Act.put, List.setIfInBounds_toArray, List.set_cons_succ, List.set_cons_zero] at hK ⊢); go_step; first | exact hK _ _ (gr0 _) rfl | (go_at_call 34; refine (intervals_ _ _ _ _ _ _ _).mono ?_; rintro e W ⟨rfl, hb⟩; exact hK _ _ hb rfl) | (go_at_call 56; refine (rintervals_ _ _ _ _ _ _ _).mono ?_; rintro e W ⟨rfl, hb⟩; exact hK _ _ hb rfl) | (go_at_call 35; refine (blocks_ _ _ _ _ _ _ _ _).mono ?_; rintro e W ⟨rfl, hb⟩; exact hK _ _ hb rfl) | (go_at_call 57; refine (rblocks_ _ _ _ _ _ _ _ _).mono ?_; rintro e W ⟨rfl, hb⟩; exact hK _ _ hb rfl) | (go_at_call 37; refine (reserve_ _ _ _ _ _ _ _ _ _ ‹_› ‹_›).mono ?_; rintro e W ⟨rfl, hb⟩; exact hK _ _ hb rfl) | (go_at_call 60; refine (rreserve_ _ _ _ _ _ _ _ _ _ ‹_› ‹_›).mono ?_; rintro e W ⟨rfl, hb⟩; exact hK _ _ hb rfl) | (go_at_call 58; refine (same_1 hO0 hO1).mono ?_; rintro e W ⟨rfl, hb⟩; exact hK _ _ hb rfl))); (try simp only [Act.put, List.setIfInBounds_toArray, List.set_cons_succ, List.set_cons_zero])) | (refine wpHid_skip rfl rfl ?_; (try simp only [Act.put, List.setIfInBounds_toArray, List.set_cons_succ, List.set_cons_zero])))
  refine wpHid_nil ?_
  intro X W9 hb9 hR9
  simp only [fill, List.map_cons, List.map_nil, Act.put, List.setIfInBounds_toArray, List.set_cons_succ, List.set_cons_zero]
  obtain ⟨hcW9, hfW9, hzW9⟩ := bcell hb9
  try simp at hzW9
  go_wp2
  go_ret
  refine ⟨rfl, ?_⟩
  repeat (first | exact gr0 _ | refine gr1 ?_ _ | refine gr2 ?_ (Later.below _) | refine gr2 ?_ (by assumption) | refine gr3 ?_ | refine gr4 ?_ (by first | (simp; done) | (simp; omega) | omega) _)
end Go.Proofs.Ytdpiikpodcanjaa
