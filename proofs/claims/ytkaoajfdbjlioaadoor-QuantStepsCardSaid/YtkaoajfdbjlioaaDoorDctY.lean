/- The transform of a block of secrets. -/
import Derived.Test.YtkaoajfdbjlioaaDoorDctX
import Derived.Deep.LoopGhost
namespace Go.Proofs.YtkaoajfdbjlioaaDoor
open Go.RowKit

set_option maxRecDepth 100000 in
set_option maxHeartbeats 2000000 in
theorem ts_f (b : Nat → Int) (lo hi : Int) (w : World) (hL : Facs w) (hI : ∀ i, i < 64 → I64 (b i)) (hlo : -32768 ≤ lo) (hhi : hi ≤ 32768) (hlh : lo ≤ hi) :
    Calls Tryd.prog 47 #[.agg hidV, .agg (blk b), .int .i64 lo, .int .i64 hi, .func (.func 20) #[] #[]] w fun e w' => e = .returned (.agg (blk fun i => rnd (fullI facN lo hi b i))) ∧ Below w.heap.size w w' := by
  have hF : bdF facN := fun _ _ h1 h2 => fac_bd h1 h2
  have wz : wrap64 0 = 0 := w64 (by omega) (by omega)
  have hlo9 : I64 lo := i64_of (by omega) (by omega)
  have hhi9 : I64 hi := i64_of (by omega) (by omega)
  go_enter Tryd.func47, Tryd.ntmps47
  go_wp2
  refine wp_abs (fun W' => TrS b (upTo (halfI facN lo hi b) 0) (upTo (fun i => rnd (fullI facN lo hi b i)) 0) w W') ?_ ?_
  · exact TrS.start b _ _ w
  intro W0 H0
  go_loopg [19] 64 (fun n i wr => ∃ k : Nat, k + n = 64 ∧ i = .int .i64 k ∧ TrS b (upTo (halfI facN lo hi b) k) (upTo (fun i => rnd (fullI facN lo hi b i)) 0) w wr)
  case atStart => exact ⟨0, rfl, rfl, H0⟩
  case round =>
    clear H0
    obtain ⟨k, hk, rfl, HT⟩ := hrel
    obtain ⟨wo, rfl⟩ : ∃ wo : World, wo = wr := ⟨_, rfl⟩
    obtain ⟨gn, rfl⟩ : ∃ gn : Nat, gn = gk := ⟨_, rfl⟩
    by_cases hlt : k < 64
    · have hz := HT.size
      have c1 : wo.cell? ⟨w.heap.size, 1, none⟩ = some (.func (.func 59) #[] #[]) := by rw [cell_of_row _ _ _ _ _ _ HT.2.1]; rfl
      have cb := row_cell HT.2.2.1 (i := 0) (by omega)
      have HH : Hid (TrS b (upTo (halfI facN lo hi b) k) (upTo (fun i => rnd (fullI facN lo hi b i)) 0) w wo) := HT
      clear HT
      have t1 : decide ((k : Int) < 64) = true := by simp; omega
      go_wp2_with (first
    | (go_at_call 59; refine (hmul_ _ _ _).mono ?_; rintro e W1 ⟨rfl, hb1⟩; obtain ⟨hc1, hf1, hz1⟩ := bcell hb1; try simp at hz1))
      have HT0 := HH.out.later hb1
      have hzz : w.heap.size + 1 + 1 + 1 + 1 < W1.heap.size := HT0.size
      obtain ⟨gs, hgs⟩ : ∃ g, g = W1.heap.size := ⟨_, rfl⟩
      rw [← hgs]
      clear HH hc1 hf1 hz1 hb1 c1 cb t1 hz
      obtain ⟨m, hm⟩ : ∃ m, m = k % 8 := ⟨_, rfl⟩
      obtain ⟨d, hd⟩ : ∃ d, d = k / 8 := ⟨_, rfl⟩
      obtain ⟨e, he⟩ : ∃ e, e = d * 8 := ⟨_, rfl⟩
      refine wp_abs (fun W' => TrS b (upTo (halfI facN lo hi b) k) (upTo (fun i => rnd (fullI facN lo hi b i)) 0) w W' ∧ Cel gs 0 w W') ⟨HT0.later (gr1 (gr0 _) _), by omega, by rw [hgs]; exact heap_alloc_new _ _⟩ ?_
      clear HT0 hzz hgs
      rintro W2 ⟨HT, HC⟩
      go_loopg [27] 8 (fun n j wr => ∃ q : Nat, q + n = 8 ∧ j = .int .i64 q ∧ TrS b (upTo (halfI facN lo hi b) k) (upTo (fun i => rnd (fullI facN lo hi b i)) 0) w wr ∧ Cel gs (sumTo q (fun t => clipI lo hi (b (e + t)) * facN m t)) w wr)
      case atStart => exact ⟨0, rfl, rfl, HT, HC⟩
      case round =>
        clear HT HC
        obtain ⟨q, hq, rfl, HT, HC⟩ := hrel
        have hz := HT.size
        have hzg := heap_lt HC.2
        have hg4 := HC.1
        have cg := HC.cell
        have fg := row_free HC.2 0
        have hLr : Facs wr := hL.below HT.1
        by_cases hlq : q < 8
        · have t1 : decide ((q : Int) < 8) = true := by simp; omega
          have c0 : wr.cell? ⟨w.heap.size, 0, none⟩ = some (.func (.func 58) #[] #[]) := by rw [cell_of_row _ _ _ _ _ _ HT.2.1]; rfl
          have c1 : wr.cell? ⟨w.heap.size, 1, none⟩ = some (.func (.func 59) #[] #[]) := by rw [cell_of_row _ _ _ _ _ _ HT.2.1]; rfl
          have c3 : wr.cell? ⟨w.heap.size, 3, none⟩ = some (.func (.func 52) #[] #[]) := by rw [cell_of_row _ _ _ _ _ _ HT.2.1]; rfl
          obtain ⟨r, hr⟩ : ∃ r, r = e + q := ⟨_, rfl⟩
          obtain ⟨⟨hr64, hr7, hr8⟩, hm9, hd9, hq9, he9, m1, d1, p1, p2⟩ := nums1 hlt hlq hm hd he hr
          have f1 : facI (m : Int) (q : Int) = facN m q := facI_nn hm9 hq9
          have cb := row_cell HT.2.2.1 (i := r) hr64
          have hbr := hI r hr64
          obtain ⟨e1, g1, g2⟩ := step1 hF hlo hhi hlh b hlt hlq hm hd he hr
          have HE : Hid (sumTo (q + 1) (fun t => clipI lo hi (b (e + t)) * facN m t) = sumTo q (fun t => clipI lo hi (b (e + t)) * facN m t) + clipI lo hi (b r) * facN m q) := e1
          have HH : Hid (TrS b (upTo (halfI facN lo hi b) k) (upTo (fun i => rnd (fullI facN lo hi b i)) 0) w wr) := HT
          have HG : Hid (Cel gs (sumTo q (fun t => clipI lo hi (b (e + t)) * facN m t)) w wr) := HC
          clear e1 HT HC hm hd he hr hk hF hlo hhi hlh hI
          generalize sumTo q (fun t => clipI lo hi (b (e + t)) * facN m t) = S at g2 HE HG cg ⊢
          go_wp2_with (refine wp_region_calm_tail 24 (by kernel_rfl) (by kernel_rfl) ?_; simp only [List.take_succ_cons, List.take_zero, List.drop_succ_cons, List.drop_zero]; (repeat (first | go_big_quiet_step ((first | (go_at_call 52; exact calm_call (sclip_ _ _ _ _ hbr hlo9 hhi9)) | (go_at_call 59; exact calm_call (hmul_ _ _ _)) | (go_at_call 58; exact calm_call (sec_add _ _ _)) | (go_at_call 20; exact calm_call (factor_ _ _ _ (hLr.below (Later.below _)))))) | quiet_step ((first | (go_at_call 52; exact calm_call (sclip_ _ _ _ _ hbr hlo9 hhi9)) | (go_at_call 59; exact calm_call (hmul_ _ _ _)) | (go_at_call 58; exact calm_call (sec_add _ _ _)) | (go_at_call 20; exact calm_call (factor_ _ _ _ (hLr.below (Later.below _)))))))); refine wpQuiet_nil ?_; intro u; have hzu := u.below.size; (try simp at hzu))
          go_wp2
          go_roundg (8 - (q + 1))
          case measure => omega
          case rel =>
            refine ⟨q + 1, by omega, by go_num, (HH.out.later (Later.below _)).out hg4, ?_⟩
            rw [HE.out]
            exact (HG.out.later (Later.below _)).set
        · have hq8 : q = 8 := by omega
          subst hq8
          have t1 : decide (((8 : Nat) : Int) < 8) = false := rfl
          have cs := row_cell HT.2.2.2.2.1 (i := k) hlt
          have fs := row_free HT.2.2.2.2.1 k
          have HE : Hid (sumTo 8 (fun t => clipI lo hi (b (e + t)) * facN m t) = halfI facN lo hi b k) := by unfold halfI; rw [hm, he, hd]; rfl
          have HH : Hid (TrS b (upTo (halfI facN lo hi b) k) (upTo (fun i => rnd (fullI facN lo hi b i)) 0) w wr) := HT
          clear HT HC hm hd he hF hlo hhi hlh hI
          generalize sumTo 8 (fun t => clipI lo hi (b (e + t)) * facN m t) = S at HE cg ⊢
          go_wp2
          go_roundg (64 - (k + 1))
          case measure => omega
          case rel =>
            refine ⟨k + 1, by omega, by go_num, ?_⟩
            rw [HE.out]
            exact TrS.set1 HH.out
    · have hk64 : k = 64 := by omega
      subst hk64
      have t1 : decide (((64 : Nat) : Int) < 64) = false := rfl
      have H0 := upTo_64S HT
      clear HT
      have HH : Hid (TrS b (halfI facN lo hi b) (upTo (fun i => rnd (fullI facN lo hi b i)) 0) w wo) := H0
      clear H0
      go_wp2
      have H0 := HH.out
      clear HH
      go_loopg [59] 64 (fun n i wr => ∃ k : Nat, k + n = 64 ∧ i = .int .i64 k ∧ TrS b (halfI facN lo hi b) (upTo (fun i => rnd (fullI facN lo hi b i)) k) w wr)
      case atStart => exact ⟨0, rfl, rfl, H0⟩
      case round =>
        clear H0
        obtain ⟨k, hk, rfl, HT⟩ := hrel
        obtain ⟨wo, rfl⟩ : ∃ wo : World, wo = wr := ⟨_, rfl⟩
        obtain ⟨gn, rfl⟩ : ∃ gn : Nat, gn = gk := ⟨_, rfl⟩
        by_cases hlt : k < 64
        · have hz := HT.size
          have c1 : wo.cell? ⟨w.heap.size, 1, none⟩ = some (.func (.func 59) #[] #[]) := by rw [cell_of_row _ _ _ _ _ _ HT.2.1]; rfl
          have cb := row_cell HT.2.2.1 (i := 0) (by omega)
          have HH : Hid (TrS b (halfI facN lo hi b) (upTo (fun i => rnd (fullI facN lo hi b i)) k) w wo) := HT
          clear HT
          have t1 : decide ((k : Int) < 64) = true := by simp; omega
          go_wp2_with (first
        | (go_at_call 59; refine (hmul_ _ _ _).mono ?_; rintro e W1 ⟨rfl, hb1⟩; obtain ⟨hc1, hf1, hz1⟩ := bcell hb1; try simp at hz1))
          have HT0 := HH.out.later hb1
          have hzz : w.heap.size + 1 + 1 + 1 + 1 < W1.heap.size := HT0.size
          obtain ⟨gs, hgs⟩ : ∃ g, g = W1.heap.size := ⟨_, rfl⟩
          rw [← hgs]
          clear HH hc1 hf1 hz1 hb1 c1 cb t1 hz
          obtain ⟨m, hm⟩ : ∃ m, m = k % 8 := ⟨_, rfl⟩
          obtain ⟨d, hd⟩ : ∃ d, d = k / 8 := ⟨_, rfl⟩
          refine wp_abs (fun W' => TrS b (halfI facN lo hi b) (upTo (fun i => rnd (fullI facN lo hi b i)) k) w W' ∧ Cel gs 0 w W') ⟨HT0.later (gr1 (gr0 _) _), by omega, by rw [hgs]; exact heap_alloc_new _ _⟩ ?_
          clear HT0 hzz hgs
          rintro W2 ⟨HT, HC⟩
          go_loopg [67] 8 (fun n j wr => ∃ q : Nat, q + n = 8 ∧ j = .int .i64 q ∧ TrS b (halfI facN lo hi b) (upTo (fun i => rnd (fullI facN lo hi b i)) k) w wr ∧ Cel gs (sumTo q (fun t => halfI facN lo hi b (t * 8 + m) * facN d t)) w wr)
          case atStart => exact ⟨0, rfl, rfl, HT, HC⟩
          case round =>
            clear HT HC
            obtain ⟨q, hq, rfl, HT, HC⟩ := hrel
            have hz := HT.size
            have hzg := heap_lt HC.2
            have hg4 := HC.1
            have cg := HC.cell
            have fg := row_free HC.2 0
            have hLr : Facs wr := hL.below HT.1
            by_cases hlq : q < 8
            · have t1 : decide ((q : Int) < 8) = true := by simp; omega
              have c0 : wr.cell? ⟨w.heap.size, 0, none⟩ = some (.func (.func 58) #[] #[]) := by rw [cell_of_row _ _ _ _ _ _ HT.2.1]; rfl
              have c1 : wr.cell? ⟨w.heap.size, 1, none⟩ = some (.func (.func 59) #[] #[]) := by rw [cell_of_row _ _ _ _ _ _ HT.2.1]; rfl
              obtain ⟨e, he⟩ : ∃ e, e = q * 8 := ⟨_, rfl⟩
              obtain ⟨r, hr⟩ : ∃ r, r = e + m := ⟨_, rfl⟩
              obtain ⟨⟨hr64, hr7, hr8⟩, hm9, hd9, hq9, he9, m1, d1, p1, p2⟩ := nums2 hlt hlq hm hd he hr
              have f1 : facI (d : Int) (q : Int) = facN d q := facI_nn hd9 hq9
              have cb := row_cell HT.2.2.2.2.1 (i := r) hr64
              obtain ⟨e1, g1, g2⟩ := step2 hF hlo hhi hlh b hlt hlq hm hd he hr
              have HE : Hid (sumTo (q + 1) (fun t => halfI facN lo hi b (t * 8 + m) * facN d t) = sumTo q (fun t => halfI facN lo hi b (t * 8 + m) * facN d t) + halfI facN lo hi b r * facN d q) := e1
              have HH : Hid (TrS b (halfI facN lo hi b) (upTo (fun i => rnd (fullI facN lo hi b i)) k) w wr) := HT
              have HG : Hid (Cel gs (sumTo q (fun t => halfI facN lo hi b (t * 8 + m) * facN d t)) w wr) := HC
              clear e1 HT HC hm hd he hr hk hF hlo hhi hlh hI
              generalize sumTo q (fun t => halfI facN lo hi b (t * 8 + m) * facN d t) = S at g2 HE HG cg ⊢
              generalize halfI facN lo hi b r = hv at cb g1 g2 HE ⊢
              go_wp2_with (refine wp_region_calm_tail 19 (by kernel_rfl) (by kernel_rfl) ?_; simp only [List.take_succ_cons, List.take_zero, List.drop_succ_cons, List.drop_zero]; (repeat (first | go_big_quiet_step ((first | (go_at_call 59; exact calm_call (hmul_ _ _ _)) | (go_at_call 58; exact calm_call (sec_add _ _ _)) | (go_at_call 20; exact calm_call (factor_ _ _ _ (hLr.below (Later.below _)))))) | quiet_step ((first | (go_at_call 59; exact calm_call (hmul_ _ _ _)) | (go_at_call 58; exact calm_call (sec_add _ _ _)) | (go_at_call 20; exact calm_call (factor_ _ _ _ (hLr.below (Later.below _)))))))); refine wpQuiet_nil ?_; intro u; have hzu := u.below.size; (try simp at hzu))
              go_wp2
              go_roundg (8 - (q + 1))
              case measure => omega
              case rel =>
                refine ⟨q + 1, by omega, by go_num, (HH.out.later (Later.below _)).out hg4, ?_⟩
                rw [HE.out]
                exact (HG.out.later (Later.below _)).set
            · have hq8 : q = 8 := by omega
              subst hq8
              have t1 : decide (((8 : Nat) : Int) < 8) = false := rfl
              have cs := row_cell HT.2.2.2.2.2 (i := k) hlt
              have fs := row_free HT.2.2.2.2.2 k
              have c2 : wr.cell? ⟨w.heap.size, 2, none⟩ = some (.func (.func 60) #[] #[]) := by rw [cell_of_row _ _ _ _ _ _ HT.2.1]; rfl
              have HE : Hid (sumTo 8 (fun t => halfI facN lo hi b (t * 8 + m) * facN d t) = fullI facN lo hi b k) := by unfold fullI; rw [hm, hd]; rfl
              have hS := full_in hF hlo hhi hlh b hlt hm hd
              have HH : Hid (TrS b (halfI facN lo hi b) (upTo (fun i => rnd (fullI facN lo hi b i)) k) w wr) := HT
              clear HT HC hm hd hF hlo hhi hlh hI
              generalize sumTo 8 (fun t => halfI facN lo hi b (t * 8 + m) * facN d t) = S at hS HE cg ⊢
              go_wp2_with (first
        | (go_at_call 60; refine (hround_ _ _ hS).mono ?_; rintro e W1 ⟨rfl, hb1⟩; obtain ⟨hc1, hf1, hz1⟩ := bcell hb1; try simp at hz1))
              go_roundg (64 - (k + 1))
              case measure => omega
              case rel =>
                refine ⟨k + 1, by omega, by go_num, ?_⟩
                rw [HE.out]
                exact TrS.set2 (h := fun i => rnd (fullI facN lo hi b i)) (HH.out.later (by assumption))
        · have hk64 : k = 64 := by omega
          subst hk64
          have t1 : decide (((64 : Nat) : Int) < 64) = false := rfl
          have H0 := upTo_64S' HT
          clear HT
          have HL := H0.2.2.2.2.2
          have HZ := H0.2.2.2.1
          have HB := H0.1
          clear H0
          go_wp2_with (first
            | (refine wpList_load_row rfl _ _ rfl (w.heap.size + 1 + 1 + 1 + 1) rfl _ _ _ _ HL Tryd.underlying45 rfl (by rw [blk_size]; kernel_rfl) ?_)
            | (refine wpList_store_row rfl _ _ _ rfl (w.heap.size + 1 + 1) _ rfl rfl _ _ HZ (by rw [blk_size]; kernel_rfl) (by rw [blk_size, blk_size]) (blk_one _) ?_))
          refine bodyPost_ret (results_cell_row rfl _ _ (w.heap.size + 1 + 1) _ _ _ _ rfl (setRow_heap _ _ _ _ _ _ HZ) Tryd.underlying45 rfl (by rw [blk_size]; kernel_rfl)) rfl ⟨rfl, below_setRow HB (by omega) _⟩

end Go.Proofs.YtkaoajfdbjlioaaDoor
