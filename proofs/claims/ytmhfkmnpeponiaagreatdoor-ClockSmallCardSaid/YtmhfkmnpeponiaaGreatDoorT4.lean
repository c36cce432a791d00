/-
  The walks of the clock package's reference: the time of a text; texts of both, compared.
-/
import Derived.Test.YtmhfkmnpeponiaaGreatDoorT3
import Derived.Test.YtmhfkmnpeponiaaGreatDoorT2
namespace Go.Proofs.YtmhfkmnpeponiaaGreatDoor
open Go Sat Go.RowKit Go.PlainAid
set_option linter.unusedSimpArgs false
set_option linter.unusedVariables false
/-- the time that a text tells, for a day, without a look at its bytes -/
def rxV (s : ByteArray) (n : Nat) (d : Int) : Int := rwT s n * 10080 + d * 1440 + 60 * (10 * (bt s ((n : Int) + 5).toNat - 48) + bt s ((n : Int) + 6).toNat - 48) + 10 * (bt s ((n : Int) + 8).toNat - 48) + bt s ((n : Int) + 9).toNat - 48
theorem rx_is {s : ByteArray} {t : Int} {n : Nat} (h : TxAt s t n) : rxV s n (t % 10080 / 1440) = t := by
  unfold rxV
  rw [show ((n : Int) + 5).toNat = n + 5 by omega, show ((n : Int) + 6).toNat = n + 6 by omega, show ((n : Int) + 8).toNat = n + 8 by omega, show ((n : Int) + 9).toNat = n + 9 by omega]
  rw [h.week, h.h1, h.h2, h.m1, h.m2]
  omega
theorem rx_bd (s : ByteArray) (n : Nat) (d : Int) (hn : rwT s n * 10080 ≤ 99993600 ∧ 0 ≤ rwT s n * 10080) (hd : 0 ≤ d ∧ d < 7) : -1000000 ≤ rxV s n d ∧ rxV s n d ≤ 200000000 := by
  have h := fun k => And.intro (bt_nonneg s k) (bt_le s k)
  have := h ((n : Int) + 5).toNat
  have := h ((n : Int) + 6).toNat
  have := h ((n : Int) + 8).toNat
  have := h ((n : Int) + 9).toNat
  unfold rxV
  omega
theorem rd_why {s : ByteArray} (h : ∀ t, timeOk t = true → txB t = s → False) : (SV.t [.v (.int .i64 0), .v (.int .i64 20)]).real = .tuple #[.int .i64 (rdV s), .int .i64 (rdE s)] := by
  obtain ⟨e1, e2⟩ := rd_no h
  rw [e1, e2]
  rfl
set_option maxRecDepth 100000 in
set_option maxHeartbeats 16000000 in
theorem rread_any (s : ByteArray) (w : World) (hs : s.size ≤ 9223372036854775807) : Calls Tryz.prog 37 #[.string s] w fun e w' => e = .returned (.tuple #[.int .i64 (rdV s), .int .i64 (rdE s)]) ∧ Below w.heap.size w w' := by
  refine calls_sat (cx := Tryz.cx 93 [15] [] [] w) (Tryz.ok ..) Tryz.func37 rfl [.v (.string s)] rfl (by show 1 ≤ 93; omega) [] (holds_nil (Nat.le_refl _)) ?_
  repeat' ((conv => whnf); first | refine walk (Tryz.ok ..) ?_ | (refine Cnd.mk (fun h => ?_) (fun h => ?_) <;> (first | exact cndT h (by (try dsimp only); omega) | exact cndF h (by (try dsimp only); omega) | (exfalso; simp at h; omega) | simp at h | skip)) | refine kp ?_ ?_ | refine tw ?_ ?_ | exact trivial | refine side ?_ | refine sideL ?_ | refine Or.inr ?_ | refine sat_drawH (Tryz.ok ..) (by kernel_rfl) ?_ | refine xi _ (And.intro rfl rfl) ?_ | refine xi _ (fun _ => And.intro rfl rfl) ?_ | refine xi _ rfl ?_)
  · have h9 := h
    repeat' ((conv => whnf); first | refine walk (Tryz.ok ..) ?_ | (refine Cnd.mk (fun h => ?_) (fun h => ?_) <;> (first | exact cndT h (by (try dsimp only); omega) | exact cndF h (by (try dsimp only); omega) | (exfalso; simp at h; omega) | simp at h | skip)) | refine kp ?_ ?_ | refine tw ?_ ?_ | exact trivial | refine side ?_ | refine sideL ?_ | refine Or.inr ?_ | refine sat_drawH (Tryz.ok ..) (by kernel_rfl) ?_ | refine xi _ (And.intro rfl rfl) ?_ | refine xi _ (fun _ => And.intro rfl rfl) ?_ | refine xi _ rfl ?_)
    refine done_pure rfl rfl (rd_why fun t h1 h2 => ?_)
    obtain ⟨n, hn⟩ := tx_at h1 h2
    have q1 := hn.len
    have q2 := hn.n1
    omega
  · have h9 := h
    obtain ⟨n, hn⟩ : ∃ n : Nat, s.size = n + 10 := ⟨s.size - 10, by omega⟩
    have hni : (s.size : Int) - 10 = n := by omega
    have hn5 : 1 ≤ n ∧ n ≤ 5 := by omega
    have bb := fun k => And.intro (bt_nonneg s k) (bt_le s k)
    repeat' ((conv => whnf); first | refine walk (Tryz.ok ..) ?_ | (refine Cnd.mk (fun h => ?_) (fun h => ?_) <;> (first | exact cndT h (by (try dsimp only); omega) | exact cndF h (by (try dsimp only); omega) | (exfalso; simp at h; omega) | simp at h | skip)) | refine kp ?_ ?_ | refine tw ?_ ?_ | exact trivial | refine side ?_ | refine sideL ?_ | refine Or.inr ?_ | refine sat_drawH (Tryz.ok ..) (by kernel_rfl) ?_ | refine xi _ (And.intro rfl rfl) ?_ | refine xi _ (fun _ => And.intro rfl rfl) ?_ | refine xi _ rfl ?_)
    refine sat_loop (Tryz.ok ..) (α := Nat) (fun k => ([(0, .yes, .v (.string s)), (4, .yes, .v (.int .i64 (n : Int))), (5, .yes, .v (.int .i64 (rwT s k))), (6, .yes, .v (.int .i64 k))], [])) (fun k => k ≤ n) (fun k => n - k) (fun _ => rfl) ?_ ?_
    · refine ⟨0, Nat.zero_le _, ?_, ?_, rfl⟩
      · dsimp only
        rw [← hni]
        ((repeat' (first | exact trivial | exact rfl | refine And.intro ?_ ?_)) <;> (try (conv => whnf)) <;> (try simp only [SV.real, SV.r2, SV.r1]))
      · ((repeat' (first | exact trivial | exact rfl | refine And.intro ?_ ?_)) <;> (try (conv => whnf)) <;> (try simp only [SV.real, SV.r2, SV.r1]))
    intro k hk
    have hbd := rwT_bd s k (by omega)
    by_cases hkn : k < n
    · have b1 := bb k
      repeat' ((conv => whnf); first | refine walk (Tryz.ok ..) ?_ | (refine Cnd.mk (fun h => ?_) (fun h => ?_) <;> (first | exact cndT h (by (try dsimp only); omega) | exact cndF h (by (try dsimp only); omega) | (exfalso; simp at h; omega) | simp at h | skip)) | refine kp ?_ ?_ | refine tw ?_ ?_ | exact trivial | refine side ?_ | refine sideL ?_ | refine Or.inr ?_ | refine sat_drawH (Tryz.ok ..) (by kernel_rfl) ?_ | refine xi _ (And.intro rfl rfl) ?_ | refine xi _ (fun _ => And.intro rfl rfl) ?_ | refine xi _ rfl ?_)
      refine ⟨k + 1, ⟨by omega, by omega⟩, ?_, ?_, rfl⟩
      all_goals ((repeat' (first | exact trivial | exact rfl | refine And.intro ?_ ?_)) <;> (try (conv => whnf)) <;> (try simp only [SV.real, SV.r2, SV.r1]))
    · obtain rfl : k = n := by omega
      repeat' ((conv => whnf); first | refine walk (Tryz.ok ..) ?_ | (refine Cnd.mk (fun h => ?_) (fun h => ?_) <;> (first | exact cndT h (by (try dsimp only); omega) | exact cndF h (by (try dsimp only); omega) | (exfalso; simp at h; omega) | simp at h | skip)) | refine kp ?_ ?_ | refine tw ?_ ?_ | exact trivial | refine side ?_ | refine sideL ?_ | refine Or.inr ?_ | refine sat_drawH (Tryz.ok ..) (by kernel_rfl) ?_ | refine xi _ (And.intro rfl rfl) ?_ | refine xi _ (fun _ => And.intro rfl rfl) ?_ | refine xi _ rfl ?_)
      · have h8 := h
        repeat' ((conv => whnf); first | refine walk (Tryz.ok ..) ?_ | (refine Cnd.mk (fun h => ?_) (fun h => ?_) <;> (first | exact cndT h (by (try dsimp only); omega) | exact cndF h (by (try dsimp only); omega) | (exfalso; simp at h; omega) | simp at h | skip)) | refine kp ?_ ?_ | refine tw ?_ ?_ | exact trivial | refine side ?_ | refine sideL ?_ | refine Or.inr ?_ | refine sat_drawH (Tryz.ok ..) (by kernel_rfl) ?_ | refine xi _ (And.intro rfl rfl) ?_ | refine xi _ (fun _ => And.intro rfl rfl) ?_ | refine xi _ rfl ?_)
        refine done_pure rfl rfl (rd_why fun t h1 h2 => ?_)
        obtain ⟨m, hm⟩ := tx_at h1 h2
        have q1 := hm.len
        obtain rfl : m = k := by omega
        have q3 := hm.week
        have q4 := (tx_bd h1).1
        omega
      · have h8 := h
        have hnot : ∀ d : Int, d = 7 → (∀ j : Int, 0 ≤ j → j < d → ¬ (timeOk (rxV s k j) = true ∧ txB (rxV s k j) = s)) → ∀ t, timeOk t = true → txB t = s → False := by
          rintro d rfl hall t h1 h2
          obtain ⟨m, hm⟩ := tx_at h1 h2
          have q1 := hm.len
          obtain rfl : m = k := by omega
          have q5 := (tx_bd h1).2.1
          refine hall (t % 10080 / 1440) q5.1 q5.2 ?_
          rw [rx_is hm]
          exact ⟨h1, h2⟩
        repeat' ((conv => whnf); first | refine walk (Tryz.ok ..) ?_ | (refine Cnd.mk (fun h => ?_) (fun h => ?_) <;> (first | exact cndT h (by (try dsimp only); omega) | exact cndF h (by (try dsimp only); omega) | (exfalso; simp at h; omega) | simp at h | skip)) | refine kp ?_ ?_ | refine tw ?_ ?_ | exact trivial | refine side ?_ | refine sideL ?_ | refine Or.inr ?_ | refine sat_drawH (Tryz.ok ..) (by kernel_rfl) ?_ | refine xi _ (And.intro rfl rfl) ?_ | refine xi _ (fun _ => And.intro rfl rfl) ?_ | refine xi _ rfl ?_)
        refine sat_loop (Tryz.ok ..) (α := Nat) (fun d => ([(0, .yes, .v (.string s)), (4, .yes, .v (.int .i64 (k : Int))), (5, .yes, .v (.int .i64 (rwT s k * 10080))), (7, .yes, .v (.int .i64 d))], [])) (fun d => d ≤ 7 ∧ ∀ j : Int, 0 ≤ j → j < d → ¬ (timeOk (rxV s k j) = true ∧ txB (rxV s k j) = s)) (fun d => 7 - d) (fun _ => rfl) ?_ ?_
        · refine ⟨0, ⟨by omega, fun j j0 j1 => by omega⟩, ?_, ?_, rfl⟩
          all_goals ((repeat' (first | exact trivial | exact rfl | refine And.intro ?_ ?_)) <;> (try (conv => whnf)) <;> (try simp only [SV.real, SV.r2, SV.r1]))
        rintro d ⟨hd, hall⟩
        by_cases hd7 : d < 7
        · have b5 := bb ((k : Int) + 5).toNat
          have b6 := bb ((k : Int) + 6).toNat
          have b8 := bb ((k : Int) + 8).toNat
          have b9 := bb ((k : Int) + 9).toNat
          have hrx := rx_bd s k d (by omega) (by omega)
          repeat' ((conv => whnf); first | refine walk (Tryz.ok ..) ?_ | (refine Cnd.mk (fun h => ?_) (fun h => ?_) <;> (first | exact cndT h (by (try dsimp only); omega) | exact cndF h (by (try dsimp only); omega) | (exfalso; simp at h; omega) | simp at h | skip)) | refine kp ?_ ?_ | refine tw ?_ ?_ | exact trivial | refine side ?_ | refine sideL ?_ | refine Or.inr ?_ | refine sat_drawH (Tryz.ok ..) (by kernel_rfl) ?_ | refine xi _ (And.intro rfl rfl) ?_ | refine xi _ (fun _ => And.intro rfl rfl) ?_ | refine xi _ rfl ?_)
          refine called_at (.t [.v (.string (tvV (rxV s k d))), .v (.int .i64 (tvE (rxV s k d)))]) rfl (fun w' _ => rtext_any (rxV s k d) w') ?_
          have hgo := fun g1 g2 => rd_good (s := s) (t := rxV s k d) g1 g2
          have hst : ¬ (tvE (rxV s k d) = 0 ∧ tvV (rxV s k d) = s) → ∀ j : Int, 0 ≤ j → j < ((d + 1 : Nat) : Int) → ¬ (timeOk (rxV s k j) = true ∧ txB (rxV s k j) = s) := by
            intro hno j j0 j1 hj
            rcases Int.lt_or_le j d with c | c
            · exact hall j j0 c hj
            · obtain rfl : j = d := by omega
              rw [(tv_yes hj.1).1, (tv_yes hj.1).2] at hno
              exact hno ⟨rfl, hj.2⟩
          obtain ⟨tv, htv⟩ : ∃ tv, tv = tvV (rxV s k d) := ⟨_, rfl⟩
          obtain ⟨te, hte⟩ : ∃ te, te = tvE (rxV s k d) := ⟨_, rfl⟩
          rw [← htv, ← hte] at hgo hst ⊢
          repeat' ((conv => whnf); first | refine walk (Tryz.ok ..) ?_ | (refine Cnd.mk (fun h => ?_) (fun h => ?_) <;> (first | exact cndT h (by (try dsimp only); omega) | exact cndF h (by (try dsimp only); omega) | (exfalso; simp at h; omega) | simp at h | skip)) | refine kp ?_ ?_ | refine tw ?_ ?_ | exact trivial | refine side ?_ | refine sideL ?_ | refine Or.inr ?_ | refine sat_drawH (Tryz.ok ..) (by kernel_rfl) ?_ | refine xi _ (And.intro rfl rfl) ?_ | refine xi _ (fun _ => And.intro rfl rfl) ?_ | refine xi _ rfl ?_)
          · have hq := h
            exact done_pure rfl rfl (hgo hq.1 (by simpa using hq.2))
          · have hq := h
            refine ⟨d + 1, ⟨⟨by omega, hst (fun hc => ?_)⟩, by omega⟩, ?_, ?_, rfl⟩
            · exact hq hc.1 hc.2
            all_goals ((repeat' (first | exact trivial | exact rfl | refine And.intro ?_ ?_)) <;> (try (conv => whnf)) <;> (try simp only [SV.real, SV.r2, SV.r1]))
        · obtain rfl : d = 7 := by omega
          repeat' ((conv => whnf); first | refine walk (Tryz.ok ..) ?_ | (refine Cnd.mk (fun h => ?_) (fun h => ?_) <;> (first | exact cndT h (by (try dsimp only); omega) | exact cndF h (by (try dsimp only); omega) | (exfalso; simp at h; omega) | simp at h | skip)) | refine kp ?_ ?_ | refine tw ?_ ?_ | exact trivial | refine side ?_ | refine sideL ?_ | refine Or.inr ?_ | refine sat_drawH (Tryz.ok ..) (by kernel_rfl) ?_ | refine xi _ (And.intro rfl rfl) ?_ | refine xi _ (fun _ => And.intro rfl rfl) ?_ | refine xi _ rfl ?_)
          exact done_pure rfl rfl (rd_why (hnot 7 rfl (fun j j0 j1 => hall j j0 (by omega))))
end Go.Proofs.YtmhfkmnpeponiaaGreatDoor
