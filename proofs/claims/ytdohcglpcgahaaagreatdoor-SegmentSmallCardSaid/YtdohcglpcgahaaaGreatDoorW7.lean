/-
  The walk of Write.
-/
import Derived.Test.YtdohcglpcgahaaaGreatDoorWW
import Derived.Test.YtdohcglpcgahaaaGreatDoorWB
set_option linter.unusedSimpArgs false
set_option linter.unusedVariables false
namespace Go.Proofs.YtdohcglpcgahaaaGreatDoor
open Go Sat Go.RowKit Go.PlainAid
theorem svc_idx {b : UInt8} (h : b.toNat ≤ 126) : 0 ≤ Lib.indexByte [39, 43, 58, 63] (b.toNat : Int).toNat.toUInt8 ↔ svc (b.toNat : Int) := by
  have : ∀ n : Nat, n < 127 → (0 ≤ Lib.indexByte [39, 43, 58, 63] (n : Int).toNat.toUInt8 ↔ svc (n : Int)) := by decide
  exact this b.toNat (by omega)
theorem bad_no {l : List UInt8} (h : l.any badB = false) {k : Nat} {b : UInt8} (hb : l[k]? = some b) : 32 ≤ b.toNat ∧ b.toNat ≤ 126 := by
  rw [List.any_eq_false] at h
  have := h b (List.mem_of_getElem? hb)
  unfold badB at this
  rw [decide_eq_true_iff] at this
  omega
abbrev Bd := List UInt8 × SV × Option (Nat × Nat) × Nat
theorem bt_at {s : ByteArray} {k : Nat} {b : UInt8} (h : s.data.toList[k]? = some b) : bt s k = (b.toNat : Int) := by
  have hk : k < s.size := by
    have := (List.getElem?_eq_some_iff.1 h).1
    simpa using this
  unfold bt
  rw [dif_pos hk]
  have : s.data.toList[k]'(by simpa using hk) = b := (List.getElem?_eq_some_iff.1 h).2
  rw [← this]
  rfl
theorem called_sc {N n0 : Nat} {SC : List Nat} {W : World} {n : Nat} {args : List SV} {H : Heap} {K : SV → Heap → Prop} (h : Called (Tryz.cxg N [] [] [] n0 [] W) n args H K) : Called (Tryz.cxg N [] [] SC n0 [] W) n args H K := Called.cx_ (cx := Tryz.cxg N [] [] [] n0 [] W) (cx' := Tryz.cxg N [] [] SC n0 [] W) rfl rfl rfl rfl h
theorem sat_cnd {cx : Cx} {c : Operand} {x y : Code} {K : Exit → Env → Heap → Prop} {f : Env} {H : Heap} (b : Bool) (hev : ev f .yes c (fun v => v = .v (.bool b))) (h : Cnd b (Walk cx x K f H) (Walk cx y K f H)) : Sat cx (.cond c x y) K f H := by
  refine ⟨fun a w hf hw => ?_⟩
  obtain ⟨v, hv, rfl⟩ := ev_sound hf hev
  exact wpIn_cond_split (hv trivial) (fun hb => (Walk.out (h.t hb)).out a w hf hw) (fun hb => (Walk.out (h.f hb)).out a w hf hw)
set_option maxRecDepth 100000 in
set_option maxHeartbeats 16000000 in
theorem write_any (a : List Segm) (va : Value) (w : World) (hA : NL w (fun _ => True) va a) :
    Calls Tryz.prog 34 #[va] w fun e w' => e = .returned (.tuple #[.string (writeL a).1, .int .i64 (writeL a).2]) ∧ Below w.heap.size w w' := by
  obtain ⟨A, cA, xs, rfl, hcA, hrA, -, hxA⟩ := hA
  refine calls_sat (cx := Tryz.cx 83 [] [] [38, 48, 58, 69] w) (Tryz.ok ..) Tryz.func34 rfl [.v (.slice (adr A) a.length cA)] rfl (by show 1 ≤ 83; omega) [] (holds_nil (Nat.le_refl _)) ?_
  by_cases hl : 5000 < a.length
  · rw [show writeL a = (⟨#[]⟩, 5) from by unfold writeL; rw [if_pos hl]]
    repeat' ((conv => whnf); first | refine walk (Tryz.ok ..) ?_ | (refine Cnd.mk (fun h => ?_) (fun h => ?_) <;> (first | exact cndT h (by (try dsimp only); omega) | exact cndF h (by (try dsimp only); omega) | (exfalso; simp at h; omega) | simp at h | skip)) | fail)
    exact done_pure rfl rfl rfl
  have hW : writeL a = if a.all rightS = true then writeRun a [] else (⟨#[]⟩, 2) := by unfold writeL; rw [if_neg hl]
  repeat' ((conv => whnf); first | refine walk (Tryz.ok ..) ?_ | (refine Cnd.mk (fun h => ?_) (fun h => ?_) <;> (first | exact cndT h (by (try dsimp only); omega) | exact cndF h (by (try dsimp only); omega) | (exfalso; simp at h; omega) | simp at h | skip)) | fail)
  refine sat_loop (Tryz.ok ..) (α := Nat) (fun i => ([(0, .yes, .v (.slice (adr A) a.length cA)), (17, .yes, .v (.slice (adr A) a.length cA)), (18, .yes, .v (.int .i64 a.length)), (19, .yes, .v (.int .i64 i))], []))
    (fun k => k ≤ a.length ∧ (a.take k).all rightS = true) (fun k => a.length - k) (fun _ => rfl) ?_ ?_
  · refine ⟨0, ⟨Nat.zero_le _, by simp⟩, ?_, ?_, rfl⟩
    all_goals ((repeat' (first | exact trivial | exact rfl | refine And.intro ?_ ?_)) <;> (try (conv => whnf)) <;> (try simp only [SV.real, SV.r2, SV.r1]))
  rintro i ⟨hi, he⟩
  by_cases hi1 : i < a.length
  · obtain ⟨s, hs⟩ : ∃ s, a[i]? = some s := ⟨_, List.getElem?_eq_getElem hi1⟩
    obtain ⟨x, hx, hne⟩ := nest_at hxA hrA.1 hs
    obtain ⟨p, rfl, _⟩ := hrA.some_ (by omega)
    repeat' ((conv => whnf); first | refine walk (Tryz.ok ..) ?_ | (refine Cnd.mk (fun h => ?_) (fun h => ?_) <;> (first | exact cndT h (by (try dsimp only); omega) | exact cndF h (by (try dsimp only); omega) | (exfalso; simp at h; omega) | simp at h | skip)) | refine side2 ?_ | refine xi _ (ro_at rfl rfl hrA hx rfl) ?_ | fail)
    refine called_at (.v (.bool (rightS s))) rfl (fun w' hh => by exact right_any s x w' (ns_stays _ _ _ _ _ _ hne (fun g _ hg => (below_of rfl rfl hh).block g hg) (fun _ h => h))) ?_
    cases hr : rightS s with
    | true =>
      repeat' ((conv => whnf); first | refine walk (Tryz.ok ..) ?_ | (refine Cnd.mk (fun h => ?_) (fun h => ?_) <;> (first | exact cndT h (by (try dsimp only); omega) | exact cndF h (by (try dsimp only); omega) | (exfalso; simp at h; omega) | simp at h | skip)) | refine sideL2 ?_ | fail)
      refine ⟨i + 1, ⟨⟨hi1, all_step he hs hr⟩, by omega⟩, ?_, ?_, rfl⟩
      all_goals ((repeat' (first | exact trivial | exact rfl | refine And.intro ?_ ?_)) <;> (try (conv => whnf)) <;> (try simp only [SV.real, SV.r2, SV.r1]))
    | false =>
      rw [if_neg (by rw [all_no hs hr]; simp)] at hW
      rw [hW]
      repeat' ((conv => whnf); first | refine walk (Tryz.ok ..) ?_ | (refine Cnd.mk (fun h => ?_) (fun h => ?_) <;> (first | exact cndT h (by (try dsimp only); omega) | exact cndF h (by (try dsimp only); omega) | (exfalso; simp at h; omega) | simp at h | skip)) | fail)
      exact done_pure rfl rfl rfl
  obtain rfl : i = a.length := by omega
  rw [List.take_length] at he
  rw [if_pos he] at hW
  have hR : ∀ s ∈ a, rightS s = true := List.all_eq_true.1 he
  clear hi hi1
  repeat' ((conv => whnf); first | refine walk (Tryz.ok ..) ?_ | (refine Cnd.mk (fun h => ?_) (fun h => ?_) <;> (first | exact cndT h (by (try dsimp only); omega) | exact cndF h (by (try dsimp only); omega) | (exfalso; simp at h; omega) | simp at h | skip)) | fail)
  (conv => whnf)
  intro g6 hg6
  repeat' ((conv => whnf); first | refine walk (Tryz.ok ..) ?_ | fail)
  refine sat_ren [(0, .yes, .v (.slice (adr A) a.length cA)), (6, .yes, .p 900 g6 0 0), (27, .yes, .v (.slice (adr A) a.length cA)), (28, .yes, .v (.int .i64 a.length)), (29, .yes, .v (.int .i64 0))] [(900, 6, .blk g6 97 [.v (.pointer none), .v (.slice none 0 0)])] (by kernel_rfl) rfl rfl rfl (by ((repeat' (first | exact trivial | exact rfl | refine And.intro ?_ ?_)) <;> (try (conv => whnf)) <;> (try simp only [SV.real, SV.r2, SV.r1]))) ?_
  refine sat_loop (Tryz.ok ..) (α := Nat × Bd) (fun t => ([(6, .yes, .p 900 g6 0 0), (27, .yes, .v (.slice (adr A) a.length cA)), (28, .yes, .v (.int .i64 a.length)), (29, .yes, .v (.int .i64 t.1))], bdH g6 t.2.2.1 t.2.2.2.1 t.2.2.2.2 t.2.1))
    (fun t => t.1 ≤ a.length ∧ t.2.1.length ≤ 65536 ∧ writeRun (a.drop t.1) t.2.1 = writeRun a [] ∧ bdX g6 t.2.2.1) (fun t => a.length - t.1) (fun _ => rfl) ?_ ?_
  · refine ⟨(0, [], .v (.pointer none), none, 0), ⟨Nat.zero_le _, Nat.zero_le _, rfl, .inl rfl⟩, ?_, ?_, rfl⟩
    · ((repeat' (first | exact trivial | exact rfl | refine And.intro ?_ ?_)) <;> (try (conv => whnf)) <;> (try simp only [SV.real, SV.r2, SV.r1]))
    · ((repeat' (first | exact trivial | exact rfl | refine And.intro ?_ ?_)) <;> (try (conv => whnf)) <;> (try simp only [SV.real, SV.r2, SV.r1]))
  rintro ⟨k, acc, x, A0, c0⟩ ⟨hk, hacc, hrun, hbx⟩
  dsimp only at hk hacc hrun hbx ⊢
  by_cases hk1 : k < a.length
  case neg =>
    obtain rfl : k = a.length := by omega
    rw [List.drop_length] at hrun
    rw [show writeRun [] acc = (ba acc, 0) from rfl] at hrun
    rw [hW, ← hrun]
    repeat' ((conv => whnf); first | refine walk (Tryz.ok ..) ?_ | (refine Cnd.mk (fun h => ?_) (fun h => ?_) <;> (first | exact cndT h (by (try dsimp only); omega) | exact cndF h (by (try dsimp only); omega) | (exfalso; simp at h; omega) | simp at h | skip)) | fail)
    (conv => whnf)
    refine called_sc (str_called g6 x A0 c0 acc hbx ?_)
    repeat' ((conv => whnf); first | refine walk (Tryz.ok ..) ?_ | fail)
    exact done_pure rfl rfl rfl
  obtain ⟨s, hs⟩ : ∃ s, a[k]? = some s := ⟨_, List.getElem?_eq_getElem hk1⟩
  have hsr := rightS_at (hR s (List.mem_of_getElem? hs))
  obtain ⟨⟨hs1, hs30⟩, hse⟩ := hsr
  rw [drop_at hs, writeRun] at hrun
  obtain ⟨v1, hv1, A1, cA1, xs1, rfl, hcA1, hrA1, -, hxA1⟩ := nest_at hxA hrA.1 hs
  obtain ⟨p, rfl, _⟩ := hrA.some_ (by omega)
  obtain ⟨p1, rfl, _⟩ := hrA1.some_ (by omega)
  obtain ⟨e0, he0⟩ : ∃ e, s[0]? = some e := ⟨_, List.getElem?_eq_getElem (by omega)⟩
  have he0l := (hse e0 (List.mem_of_getElem? he0)).1
  obtain ⟨v2, hv2, hne2⟩ := nest_at hxA1 hrA1.1 he0
  obtain ⟨A2, cA2, rfl, hcA2, hrA2, -⟩ := ne_row hne2
  obtain ⟨p2, rfl, _⟩ := hrA2.some_ (by omega)
  obtain ⟨d0, hd0⟩ : ∃ c, e0[0]? = some c := ⟨_, List.getElem?_eq_getElem (by omega)⟩
  have hd0v : (e0.map Value.string)[0]? = some (.string d0) := by rw [List.getElem?_map, hd0]; rfl
  have hblank : blankS s = Lib.hasPrefix d0.data.toList [32] := by
    cases s with
    | nil => cases he0
    | cons e1 s1 =>
      cases he0
      cases e0 with
      | nil => cases hd0
      | cons d1 e1 =>
        cases hd0
        rfl
  repeat' ((conv => whnf); first | refine walk (Tryz.ok ..) ?_ | (refine Cnd.mk (fun h => ?_) (fun h => ?_) <;> (first | exact cndT h (by (try dsimp only); omega) | exact cndF h (by (try dsimp only); omega) | (exfalso; simp at h; omega) | simp at h | skip)) | refine side2 ?_ | refine xi _ (ro_at rfl rfl hrA hv1 rfl) ?_ | refine xi _ (ro_at rfl rfl hrA1 hv2 rfl) ?_ | refine xi _ (ro_at rfl rfl hrA2 hd0v rfl) ?_ | fail)
  (conv => whnf)
  refine called_pure (.v (.bool (blankS s))) rfl (fun w' => by rw [hblank]; exact (Tryz.strings_HasPrefix d0 ⟨#[32]⟩ w').mono fun e w2 h => ⟨h.1, by rw [h.2]; exact Below.refl _ _⟩) ?_
  repeat' ((conv => whnf); first | refine walk (Tryz.ok ..) ?_ | fail)
  refine sat_join0 (fun (t : Bd) => ([(6, .yes, .p 900 g6 0 0), (27, .yes, .v (.slice (adr (some p)) a.length cA)), (28, .yes, .v (.int .i64 a.length)), (29, .yes, .v (.int .i64 k)), (8, .yes, .v (.slice (adr (some p1)) s.length cA1))], bdH g6 t.2.1 t.2.2.1 t.2.2.2 t.1))
    (fun t => t.1 = acc ++ (if blankS s = true then [63] else []) ∧ bdX g6 t.2.1) (fun _ => rfl) ?_ ?_
  · refine sat_cnd (blankS s) rfl ⟨fun hb => ?_, fun hb => ?_⟩
    · rw [hb, if_pos rfl]
      repeat' ((conv => whnf); first | refine walk (Tryz.ok ..) ?_ | fail)
      (conv => whnf)
      refine called_sc (byte_called g6 x A0 c0 acc 63 63 rfl hbx (by omega) ?_)
      intro A3 c3
      skip
      exact ⟨(acc ++ [63], .p 900 g6 0 0, A3, c3), ⟨rfl, .inr rfl⟩, by ((repeat' (first | exact trivial | exact rfl | refine And.intro ?_ ?_)) <;> (try (conv => whnf)) <;> (try simp only [SV.real, SV.r2, SV.r1])), by ((repeat' (first | exact trivial | exact rfl | refine And.intro ?_ ?_)) <;> (try (conv => whnf)) <;> (try simp only [SV.real, SV.r2, SV.r1])), rfl⟩
    · rw [hb, if_neg (by simp), List.append_nil]
      repeat' ((conv => whnf); first | refine walk (Tryz.ok ..) ?_ | fail)
      exact ⟨(acc, x, A0, c0), ⟨rfl, hbx⟩, by ((repeat' (first | exact trivial | exact rfl | refine And.intro ?_ ?_)) <;> (try (conv => whnf)) <;> (try simp only [SV.real, SV.r2, SV.r1])), by ((repeat' (first | exact trivial | exact rfl | refine And.intro ?_ ?_)) <;> (try (conv => whnf)) <;> (try simp only [SV.real, SV.r2, SV.r1])), rfl⟩
  rintro ⟨acc1, x1, A1', c1⟩ ⟨rfl, hbx1⟩
  dsimp only at hbx1 ⊢
  clear hbx
  have hacc1 : (acc ++ (if blankS s = true then [63] else [])).length ≤ 65600 := by
    rw [List.length_append]
    have : (if blankS s = true then ([63] : List UInt8) else []).length ≤ 1 := by split <;> simp
    omega
  obtain ⟨acc0, hacc0⟩ : ∃ l, l = acc ++ (if blankS s = true then [63] else []) := ⟨_, rfl⟩
  rw [← hacc0] at hacc1 ⊢
  have hwS : acc ++ wS s = acc0 ++ joinW 43 wE s ++ [39] := by rw [hacc0]; unfold wS; simp only [List.append_assoc]
  rw [hwS] at hrun
  repeat' ((conv => whnf); first | refine walk (Tryz.ok ..) ?_ | fail)
  refine sat_loop (Tryz.ok ..) (α := Nat × Bd) (fun t => ([(6, .yes, .p 900 g6 0 0), (27, .yes, .v (.slice (adr (some p)) a.length cA)), (28, .yes, .v (.int .i64 a.length)), (29, .yes, .v (.int .i64 k)), (40, .yes, .v (.slice (adr (some p1)) s.length cA1)), (41, .yes, .v (.int .i64 s.length)), (42, .yes, .v (.int .i64 t.1))], bdH g6 t.2.2.1 t.2.2.2.1 t.2.2.2.2 t.2.1))
    (fun t => t.1 ≤ s.length ∧ t.2.1 = acc0 ++ joinW 43 wE (s.take t.1) ∧ t.2.1.length ≤ 65600 + 3000 * t.1 ∧ bdX g6 t.2.2.1) (fun t => s.length - t.1) (fun _ => rfl) ?_ ?_
  · refine ⟨(0, acc0, x1, A1', c1), ⟨Nat.zero_le _, by simp [joinW], hacc1, hbx1⟩, ?_, ?_, rfl⟩
    · ((repeat' (first | exact trivial | exact rfl | refine And.intro ?_ ?_)) <;> (try (conv => whnf)) <;> (try simp only [SV.real, SV.r2, SV.r1]))
    · ((repeat' (first | exact trivial | exact rfl | refine And.intro ?_ ?_)) <;> (try (conv => whnf)) <;> (try simp only [SV.real, SV.r2, SV.r1]))
  rintro ⟨i, acc2, x2, A2', c2⟩ ⟨hi, hj2, hacc2, hbx2⟩
  dsimp only at hi hj2 hacc2 hbx2 ⊢
  clear hbx1 x1 A1' c1
  by_cases hi1 : i < s.length
  case neg =>
    obtain rfl : i = s.length := by omega
    rw [List.take_length] at hj2
    rw [← hj2] at hrun
    repeat' ((conv => whnf); first | refine walk (Tryz.ok ..) ?_ | (refine Cnd.mk (fun h => ?_) (fun h => ?_) <;> (first | exact cndT h (by (try dsimp only); omega) | exact cndF h (by (try dsimp only); omega) | (exfalso; simp at h; omega) | simp at h | skip)) | fail)
    (conv => whnf)
    refine called_sc (byte_called g6 x2 A2' c2 acc2 39 39 rfl hbx2 (by omega) ?_)
    intro A3 c3
    repeat' ((conv => whnf); first | refine walk (Tryz.ok ..) ?_ | fail)
    (conv => whnf)
    refine called_sc (len_called g6 (.p 900 g6 0 0) A3 c3 (acc2 ++ [39]) ?_)
    by_cases hbig : 65536 < (acc2 ++ [39]).length
    · rw [if_pos hbig] at hrun
      rw [hW, ← hrun]
      repeat' ((conv => whnf); first | refine walk (Tryz.ok ..) ?_ | (refine Cnd.mk (fun h => ?_) (fun h => ?_) <;> (first | exact cndT h (by (try dsimp only); omega) | exact cndF h (by (try dsimp only); omega) | (exfalso; simp at h; omega) | simp at h | skip)) | fail)
      exact done_pure rfl rfl rfl
    · rw [if_neg hbig] at hrun
      repeat' ((conv => whnf); first | refine walk (Tryz.ok ..) ?_ | (refine Cnd.mk (fun h => ?_) (fun h => ?_) <;> (first | exact cndT h (by (try dsimp only); omega) | exact cndF h (by (try dsimp only); omega) | (exfalso; simp at h; omega) | simp at h | skip)) | refine sideL2 ?_ | fail)
      refine ⟨(k + 1, acc2 ++ [39], .p 900 g6 0 0, A3, c3), ⟨⟨hk1, (by show (acc2 ++ [39]).length ≤ 65536; omega), hrun, .inr rfl⟩, by show a.length - (k + 1) < a.length - k; omega⟩, ?_, ?_, rfl⟩
      · ((repeat' (first | exact trivial | exact rfl | refine And.intro ?_ ?_)) <;> (try (conv => whnf)) <;> (try simp only [SV.real, SV.r2, SV.r1]))
      · ((repeat' (first | exact trivial | exact rfl | refine And.intro ?_ ?_)) <;> (try (conv => whnf)) <;> (try simp only [SV.real, SV.r2, SV.r1]))
  obtain ⟨e, he1⟩ : ∃ e, s[i]? = some e := ⟨_, List.getElem?_eq_getElem hi1⟩
  obtain ⟨⟨hee1, he10⟩, hce⟩ := hse e (List.mem_of_getElem? he1)
  obtain ⟨v3, hv3, hne3⟩ := nest_at hxA1 hrA1.1 he1
  obtain ⟨A3, cA3, rfl, hcA3, hrA3, -⟩ := ne_row hne3
  obtain ⟨p3, rfl, _⟩ := hrA3.some_ (by omega)
  have hstep := join_step 43 wE he1
  repeat' ((conv => whnf); first | refine walk (Tryz.ok ..) ?_ | (refine Cnd.mk (fun h => ?_) (fun h => ?_) <;> (first | exact cndT h (by (try dsimp only); omega) | exact cndF h (by (try dsimp only); omega) | (exfalso; simp at h; omega) | simp at h | skip)) | refine side2 ?_ | refine xi _ (ro_at rfl rfl hrA1 hv3 rfl) ?_ | fail)
  refine sat_join0 (fun (t : Bd) => ([(6, .yes, .p 900 g6 0 0), (27, .yes, .v (.slice (adr (some p)) a.length cA)), (28, .yes, .v (.int .i64 a.length)), (29, .yes, .v (.int .i64 k)), (40, .yes, .v (.slice (adr (some p1)) s.length cA1)), (41, .yes, .v (.int .i64 s.length)), (42, .yes, .v (.int .i64 i)), (10, .yes, .v (.slice (adr (some p3)) e.length cA3))], bdH g6 t.2.1 t.2.2.1 t.2.2.2 t.1))
    (fun t => t.1 = acc2 ++ (if 0 < i then [43] else []) ∧ bdX g6 t.2.1) (fun _ => rfl) ?_ ?_
  · by_cases hb : 0 < i
    · rw [if_pos hb]
      refine sat_cnd true (congrArg (fun b => SV.v (Value.bool b)) (decide_eq_true (by omega))) ⟨fun _ => ?_, fun h => (by cases h)⟩
      repeat' ((conv => whnf); first | refine walk (Tryz.ok ..) ?_ | fail)
      (conv => whnf)
      refine called_sc (byte_called g6 x2 A2' c2 acc2 43 43 rfl hbx2 (by omega) ?_)
      intro A4 c4
      skip
      exact ⟨(acc2 ++ [43], .p 900 g6 0 0, A4, c4), ⟨rfl, .inr rfl⟩, by ((repeat' (first | exact trivial | exact rfl | refine And.intro ?_ ?_)) <;> (try (conv => whnf)) <;> (try simp only [SV.real, SV.r2, SV.r1])), by ((repeat' (first | exact trivial | exact rfl | refine And.intro ?_ ?_)) <;> (try (conv => whnf)) <;> (try simp only [SV.real, SV.r2, SV.r1])), rfl⟩
    · rw [if_neg hb, List.append_nil]
      refine sat_cnd false (congrArg (fun b => SV.v (Value.bool b)) (decide_eq_false (by omega))) ⟨fun h => (by cases h), fun _ => ?_⟩
      repeat' ((conv => whnf); first | refine walk (Tryz.ok ..) ?_ | fail)
      exact ⟨(acc2, x2, A2', c2), ⟨rfl, hbx2⟩, by ((repeat' (first | exact trivial | exact rfl | refine And.intro ?_ ?_)) <;> (try (conv => whnf)) <;> (try simp only [SV.real, SV.r2, SV.r1])), by ((repeat' (first | exact trivial | exact rfl | refine And.intro ?_ ?_)) <;> (try (conv => whnf)) <;> (try simp only [SV.real, SV.r2, SV.r1])), rfl⟩
  rintro ⟨acc3, x3, A3', c3⟩ ⟨hacc3, hbx3⟩
  dsimp only at hacc3 hbx3 ⊢
  have hl3 : acc3.length ≤ 65601 + 3000 * i := by
    rw [hacc3, List.length_append]
    have : (if 0 < i then ([43] : List UInt8) else []).length ≤ 1 := by split <;> simp
    omega
  have hj3 : acc3 ++ joinW 58 wC e = acc0 ++ joinW 43 wE (s.take (i + 1)) := by
    rw [hstep, hacc3, hj2]
    simp only [List.append_assoc]
    rfl
  clear hbx2 x2 A2' c2
  repeat' ((conv => whnf); first | refine walk (Tryz.ok ..) ?_ | fail)
  refine sat_loop (Tryz.ok ..) (α := Nat × Bd) (fun t => ([(6, .yes, .p 900 g6 0 0), (27, .yes, .v (.slice (adr (some p)) a.length cA)), (28, .yes, .v (.int .i64 a.length)), (29, .yes, .v (.int .i64 k)), (40, .yes, .v (.slice (adr (some p1)) s.length cA1)), (41, .yes, .v (.int .i64 s.length)), (42, .yes, .v (.int .i64 i)), (50, .yes, .v (.slice (adr (some p3)) e.length cA3)), (51, .yes, .v (.int .i64 e.length)), (52, .yes, .v (.int .i64 t.1))], bdH g6 t.2.2.1 t.2.2.2.1 t.2.2.2.2 t.2.1))
    (fun t => t.1 ≤ e.length ∧ t.2.1 = acc3 ++ joinW 58 wC (e.take t.1) ∧ t.2.1.length ≤ 65601 + 3000 * i + 290 * t.1 ∧ bdX g6 t.2.2.1) (fun t => e.length - t.1) (fun _ => rfl) ?_ ?_
  · refine ⟨(0, acc3, x3, A3', c3), ⟨Nat.zero_le _, by simp [joinW], hl3, hbx3⟩, ?_, ?_, rfl⟩
    · ((repeat' (first | exact trivial | exact rfl | refine And.intro ?_ ?_)) <;> (try (conv => whnf)) <;> (try simp only [SV.real, SV.r2, SV.r1]))
    · ((repeat' (first | exact trivial | exact rfl | refine And.intro ?_ ?_)) <;> (try (conv => whnf)) <;> (try simp only [SV.real, SV.r2, SV.r1]))
  rintro ⟨j, acc4, x4, A4', c4⟩ ⟨hj, hj4, hacc4, hbx4⟩
  dsimp only at hj hj4 hacc4 hbx4 ⊢
  clear hbx3 x3 A3' c3
  by_cases hj1 : j < e.length
  case neg =>
    obtain rfl : j = e.length := by omega
    rw [List.take_length, hj3] at hj4
    repeat' ((conv => whnf); first | refine walk (Tryz.ok ..) ?_ | (refine Cnd.mk (fun h => ?_) (fun h => ?_) <;> (first | exact cndT h (by (try dsimp only); omega) | exact cndF h (by (try dsimp only); omega) | (exfalso; simp at h; omega) | simp at h | skip)) | refine sideL2 ?_ | fail)
    refine ⟨(i + 1, acc4, x4, A4', c4), ⟨⟨hi1, hj4, (by show acc4.length ≤ 65600 + 3000 * (i + 1); omega), hbx4⟩, by show s.length - (i + 1) < s.length - i; omega⟩, ?_, ?_, rfl⟩
    · ((repeat' (first | exact trivial | exact rfl | refine And.intro ?_ ?_)) <;> (try (conv => whnf)) <;> (try simp only [SV.real, SV.r2, SV.r1]))
    · ((repeat' (first | exact trivial | exact rfl | refine And.intro ?_ ?_)) <;> (try (conv => whnf)) <;> (try simp only [SV.real, SV.r2, SV.r1]))
  obtain ⟨c, hc1⟩ : ∃ c, e[j]? = some c := ⟨_, List.getElem?_eq_getElem hj1⟩
  obtain ⟨hcs, hcb⟩ := hce c (List.mem_of_getElem? hc1)
  have hcv : (e.map Value.string)[j]? = some (.string c) := by rw [List.getElem?_map, hc1]; rfl
  have hstep2 := join_step 58 wC hc1
  repeat' ((conv => whnf); first | refine walk (Tryz.ok ..) ?_ | (refine Cnd.mk (fun h => ?_) (fun h => ?_) <;> (first | exact cndT h (by (try dsimp only); omega) | exact cndF h (by (try dsimp only); omega) | (exfalso; simp at h; omega) | simp at h | skip)) | refine side2 ?_ | refine xi _ (ro_at rfl rfl hrA3 hcv rfl) ?_ | fail)
  refine sat_join0 (fun (t : Bd) => ([(6, .yes, .p 900 g6 0 0), (27, .yes, .v (.slice (adr (some p)) a.length cA)), (28, .yes, .v (.int .i64 a.length)), (29, .yes, .v (.int .i64 k)), (40, .yes, .v (.slice (adr (some p1)) s.length cA1)), (41, .yes, .v (.int .i64 s.length)), (42, .yes, .v (.int .i64 i)), (50, .yes, .v (.slice (adr (some p3)) e.length cA3)), (51, .yes, .v (.int .i64 e.length)), (52, .yes, .v (.int .i64 j)), (12, .yes, .v (.string c))], bdH g6 t.2.1 t.2.2.1 t.2.2.2 t.1))
    (fun t => t.1 = acc4 ++ (if 0 < j then [58] else []) ∧ bdX g6 t.2.1) (fun _ => rfl) ?_ ?_
  · by_cases hb : 0 < j
    · rw [if_pos hb]
      refine sat_cnd true (congrArg (fun b => SV.v (Value.bool b)) (decide_eq_true (by omega))) ⟨fun _ => ?_, fun h => (by cases h)⟩
      repeat' ((conv => whnf); first | refine walk (Tryz.ok ..) ?_ | fail)
      (conv => whnf)
      refine called_sc (byte_called g6 x4 A4' c4 acc4 58 58 rfl hbx4 (by omega) ?_)
      intro A5 c5
      skip
      exact ⟨(acc4 ++ [58], .p 900 g6 0 0, A5, c5), ⟨rfl, .inr rfl⟩, by ((repeat' (first | exact trivial | exact rfl | refine And.intro ?_ ?_)) <;> (try (conv => whnf)) <;> (try simp only [SV.real, SV.r2, SV.r1])), by ((repeat' (first | exact trivial | exact rfl | refine And.intro ?_ ?_)) <;> (try (conv => whnf)) <;> (try simp only [SV.real, SV.r2, SV.r1])), rfl⟩
    · rw [if_neg hb, List.append_nil]
      refine sat_cnd false (congrArg (fun b => SV.v (Value.bool b)) (decide_eq_false (by omega))) ⟨fun h => (by cases h), fun _ => ?_⟩
      repeat' ((conv => whnf); first | refine walk (Tryz.ok ..) ?_ | fail)
      exact ⟨(acc4, x4, A4', c4), ⟨rfl, hbx4⟩, by ((repeat' (first | exact trivial | exact rfl | refine And.intro ?_ ?_)) <;> (try (conv => whnf)) <;> (try simp only [SV.real, SV.r2, SV.r1])), by ((repeat' (first | exact trivial | exact rfl | refine And.intro ?_ ?_)) <;> (try (conv => whnf)) <;> (try simp only [SV.real, SV.r2, SV.r1])), rfl⟩
  rintro ⟨acc5, x5, A5', c5⟩ ⟨hacc5, hbx5⟩
  dsimp only at hacc5 hbx5 ⊢
  have hl5 : acc5.length ≤ 65602 + 3000 * i + 290 * j := by
    rw [hacc5, List.length_append]
    have : (if 0 < j then ([58] : List UInt8) else []).length ≤ 1 := by split <;> simp
    omega
  have hj5 : acc5 ++ c.data.toList.flatMap relB = acc3 ++ joinW 58 wC (e.take (j + 1)) := by
    rw [hstep2, hacc5, hj4]
    simp only [List.append_assoc]
    rfl
  clear hbx4 x4 A4' c4
  obtain ⟨l, hl⟩ : ∃ l, l = c.data.toList := ⟨_, rfl⟩
  have hsz : c.size = l.length := by rw [hl]; rfl
  rw [← hl] at hcb hj5
  repeat' ((conv => whnf); first | refine walk (Tryz.ok ..) ?_ | fail)
  refine sat_loop (Tryz.ok ..) (α := Nat × Bd) (fun t => ([(6, .yes, .p 900 g6 0 0), (27, .yes, .v (.slice (adr (some p)) a.length cA)), (28, .yes, .v (.int .i64 a.length)), (29, .yes, .v (.int .i64 k)), (40, .yes, .v (.slice (adr (some p1)) s.length cA1)), (41, .yes, .v (.int .i64 s.length)), (42, .yes, .v (.int .i64 i)), (50, .yes, .v (.slice (adr (some p3)) e.length cA3)), (51, .yes, .v (.int .i64 e.length)), (52, .yes, .v (.int .i64 j)), (12, .yes, .v (.string c)), (61, .yes, .v (.int .i64 c.size)), (62, .yes, .v (.int .i64 t.1))], bdH g6 t.2.2.1 t.2.2.2.1 t.2.2.2.2 t.2.1))
    (fun t => t.1 ≤ l.length ∧ t.2.1 = acc5 ++ (l.take t.1).flatMap relB ∧ t.2.1.length ≤ 65602 + 3000 * i + 290 * j + 2 * t.1 ∧ bdX g6 t.2.2.1) (fun t => l.length - t.1) (fun _ => rfl) ?_ ?_
  · refine ⟨(0, acc5, x5, A5', c5), ⟨Nat.zero_le _, by simp, hl5, hbx5⟩, ?_, ?_, rfl⟩
    · ((repeat' (first | exact trivial | exact rfl | refine And.intro ?_ ?_)) <;> (try (conv => whnf)) <;> (try simp only [SV.real, SV.r2, SV.r1]))
    · ((repeat' (first | exact trivial | exact rfl | refine And.intro ?_ ?_)) <;> (try (conv => whnf)) <;> (try simp only [SV.real, SV.r2, SV.r1]))
  rintro ⟨m, acc6, x6, A6', c6⟩ ⟨hm, hj6, hacc6, hbx6⟩
  dsimp only at hm hj6 hacc6 hbx6 ⊢
  clear hbx5 x5 A5' c5
  by_cases hm1 : m < l.length
  case neg =>
    obtain rfl : m = l.length := by omega
    rw [List.take_length, hj5] at hj6
    repeat' ((conv => whnf); first | refine walk (Tryz.ok ..) ?_ | (refine Cnd.mk (fun h => ?_) (fun h => ?_) <;> (first | exact cndT h (by (try dsimp only); omega) | exact cndF h (by (try dsimp only); omega) | (exfalso; simp at h; omega) | simp at h | skip)) | refine sideL2 ?_ | fail)
    refine ⟨(j + 1, acc6, x6, A6', c6), ⟨⟨hj1, hj6, (by show acc6.length ≤ 65601 + 3000 * i + 290 * (j + 1); omega), hbx6⟩, by show e.length - (j + 1) < e.length - j; omega⟩, ?_, ?_, rfl⟩
    · ((repeat' (first | exact trivial | exact rfl | refine And.intro ?_ ?_)) <;> (try (conv => whnf)) <;> (try simp only [SV.real, SV.r2, SV.r1]))
    · ((repeat' (first | exact trivial | exact rfl | refine And.intro ?_ ?_)) <;> (try (conv => whnf)) <;> (try simp only [SV.real, SV.r2, SV.r1]))
  obtain ⟨b, hb1⟩ : ∃ b, l[m]? = some b := ⟨_, List.getElem?_eq_getElem hm1⟩
  have hb32 := bad_no hcb hb1
  have hstep3 := wC_step hb1
  have hbs : c.data.toList[m]? = some b := by rw [← hl]; exact hb1
  have hsv := svc_idx hb32.2
  have hbl := relB_len b
  have hbt : bt c (m : Int).toNat = (b.toNat : Int) := bt_at hbs
  repeat' ((conv => whnf); first | refine walk (Tryz.ok ..) ?_ | (refine Cnd.mk (fun h => ?_) (fun h => ?_) <;> (first | exact cndT h (by (try dsimp only); omega) | exact cndF h (by (try dsimp only); omega) | (exfalso; simp at h; omega) | simp at h | skip)) | refine side2 ?_ | fail)
  (conv => whnf)
  refine called_pure (.v (.int .i64 (Lib.indexByte [39, 43, 58, 63] (b.toNat : Int).toNat.toUInt8))) rfl (fun w' => by rw [← hbt]; exact (Tryz.strings_IndexByte ⟨#[39, 43, 58, 63]⟩ (bt c (m : Int).toNat) w').mono fun e w2 h => ⟨h.1, by rw [h.2]; exact Below.refl _ _⟩) ?_
  repeat' ((conv => whnf); first | refine walk (Tryz.ok ..) ?_ | fail)
  refine sat_join0 (fun (t : Bd) => ([(6, .yes, .p 900 g6 0 0), (27, .yes, .v (.slice (adr (some p)) a.length cA)), (28, .yes, .v (.int .i64 a.length)), (29, .yes, .v (.int .i64 k)), (40, .yes, .v (.slice (adr (some p1)) s.length cA1)), (41, .yes, .v (.int .i64 s.length)), (42, .yes, .v (.int .i64 i)), (50, .yes, .v (.slice (adr (some p3)) e.length cA3)), (51, .yes, .v (.int .i64 e.length)), (52, .yes, .v (.int .i64 j)), (12, .yes, .v (.string c)), (61, .yes, .v (.int .i64 c.size)), (62, .yes, .v (.int .i64 m)), (13, .yes, .v (.int .i64 m))], bdH g6 t.2.1 t.2.2.1 t.2.2.2 t.1))
    (fun t => t.1 = acc6 ++ (if svc (b.toNat : Int) then [63] else []) ∧ bdX g6 t.2.1) (fun _ => rfl) ?_ ?_
  · by_cases hb : svc (b.toNat : Int)
    · rw [if_pos hb]
      refine sat_cnd true (congrArg (fun b => SV.v (Value.bool b)) (decide_eq_true (hsv.2 hb))) ⟨fun _ => ?_, fun h => (by cases h)⟩
      repeat' ((conv => whnf); first | refine walk (Tryz.ok ..) ?_ | fail)
      (conv => whnf)
      refine called_sc (byte_called g6 x6 A6' c6 acc6 63 63 rfl hbx6 (by omega) ?_)
      intro A7 c7
      skip
      exact ⟨(acc6 ++ [63], .p 900 g6 0 0, A7, c7), ⟨rfl, .inr rfl⟩, by ((repeat' (first | exact trivial | exact rfl | refine And.intro ?_ ?_)) <;> (try (conv => whnf)) <;> (try simp only [SV.real, SV.r2, SV.r1])), by ((repeat' (first | exact trivial | exact rfl | refine And.intro ?_ ?_)) <;> (try (conv => whnf)) <;> (try simp only [SV.real, SV.r2, SV.r1])), rfl⟩
    · rw [if_neg hb, List.append_nil]
      refine sat_cnd false (congrArg (fun b => SV.v (Value.bool b)) (decide_eq_false (fun h => hb (hsv.1 h)))) ⟨fun h => (by cases h), fun _ => ?_⟩
      repeat' ((conv => whnf); first | refine walk (Tryz.ok ..) ?_ | fail)
      exact ⟨(acc6, x6, A6', c6), ⟨rfl, hbx6⟩, by ((repeat' (first | exact trivial | exact rfl | refine And.intro ?_ ?_)) <;> (try (conv => whnf)) <;> (try simp only [SV.real, SV.r2, SV.r1])), by ((repeat' (first | exact trivial | exact rfl | refine And.intro ?_ ?_)) <;> (try (conv => whnf)) <;> (try simp only [SV.real, SV.r2, SV.r1])), rfl⟩
  rintro ⟨acc7, x7, A7', c7⟩ ⟨hacc7, hbx7⟩
  dsimp only at hacc7 hbx7 ⊢
  have hj7 : acc7 ++ [b] = acc5 ++ (l.take (m + 1)).flatMap relB := by
    rw [hstep3, hacc7, hj6]
    unfold relB
    split <;> simp
  have hl7 : (acc7 ++ [b]).length ≤ acc6.length + 2 := by
    rw [hacc7]
    split <;> simp
  clear hbx6 x6 A6' c6
  repeat' ((conv => whnf); first | refine walk (Tryz.ok ..) ?_ | refine side2 ?_ | fail)
  (conv => whnf)
  refine called_sc (byte_called g6 x7 A7' c7 acc7 b _ hbt hbx7 (by rw [List.length_append] at hl7; omega) ?_)
  intro A8 c8
  repeat' ((conv => whnf); first | refine walk (Tryz.ok ..) ?_ | refine sideL2 ?_ | fail)
  refine ⟨(m + 1, acc7 ++ [b], .p 900 g6 0 0, A8, c8), ⟨⟨hm1, hj7, (by show (acc7 ++ [b]).length ≤ 65602 + 3000 * i + 290 * j + 2 * (m + 1); omega), .inr rfl⟩, by show l.length - (m + 1) < l.length - m; omega⟩, ?_, ?_, rfl⟩
  · ((repeat' (first | exact trivial | exact rfl | refine And.intro ?_ ?_)) <;> (try (conv => whnf)) <;> (try simp only [SV.real, SV.r2, SV.r1]))
  · ((repeat' (first | exact trivial | exact rfl | refine And.intro ?_ ?_)) <;> (try (conv => whnf)) <;> (try simp only [SV.real, SV.r2, SV.r1]))
end Go.Proofs.YtdohcglpcgahaaaGreatDoor
