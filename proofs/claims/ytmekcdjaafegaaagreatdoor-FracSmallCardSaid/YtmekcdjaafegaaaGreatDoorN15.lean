/-
  The walks of the frac package: a list of bytes is turned round in place.
-/
import Derived.Test.YtmekcdjaafegaaaGreatDoorN14
import Derived.Test.YtmekcdjaafegaaaGreatDoorFT
namespace Go.Proofs.YtmekcdjaafegaaaGreatDoor
open Go Sat Go.RowKit Go.PlainAid
set_option linter.unusedSimpArgs false
set_option linter.unusedVariables false
def u8v (l : List Int) : List Value := l.map (Value.int .u8)
theorem u8v_len (l : List Int) : (u8v l).length = l.length := List.length_map ..
def b8 (l : List Int) (post : List Value) : List SV := (u8v l ++ post).map SV.v
theorem b8_r1 (l : List Int) (post : List Value) : (b8 l post).map SV.r1 = u8v l ++ post := by
  unfold b8
  rw [List.map_map]
  exact getElem?_map_v _
theorem b8_at {l : List Int} {post : List Value} {i : Int} {k : Nat} {a : Int} (h : l[k]? = some a) (hi : i = k) : (b8 l post)[0 + mulS i.toNat 1]? = some (.v (.int .u8 a)) ∧ (SV.v (.int .u8 a)).scal = true := by
  refine ⟨?_, rfl⟩
  have hk := (List.getElem?_eq_some_iff.1 h).1
  rw [mulS_eq, hi, Int.toNat_natCast, Nat.mul_one, Nat.zero_add]
  unfold b8 u8v
  rw [List.getElem?_map, List.getElem?_append_left (by rw [List.length_map]; exact hk), List.getElem?_map, h]
  rfl
theorem b8_lt {l : List Int} {post : List Value} {i : Int} {k : Nat} (h : k < l.length) (hi : i = k) : 0 + mulS i.toNat 1 < (b8 l post).length := by
  rw [mulS_eq, hi, Int.toNat_natCast, Nat.mul_one]
  unfold b8
  simp only [List.length_map, List.length_append, u8v_len]
  omega
theorem b8_set {l : List Int} {post : List Value} {i : Int} {k : Nat} {a : Int} (h : k < l.length) (hi : i = k) : (b8 l post).set (0 + mulS i.toNat 1) (.v (.int .u8 a)) = b8 (l.set k a) post := by
  rw [mulS_eq, hi, Int.toNat_natCast, Nat.mul_one, Nat.zero_add]
  unfold b8 u8v
  rw [← List.map_set, List.set_append_left _ _ (by rw [List.length_map]; exact h), List.map_set]
/-- so many are turned from both ends -/
structure Rv (l o : List Int) (i : Nat) : Prop where
  len : o.length = l.length
  at_ : ∀ k, k < l.length → o[k]? = if k < i ∨ l.length - i ≤ k then l[l.length - 1 - k]? else l[k]?
theorem rv_zero (l : List Int) : Rv l l 0 := ⟨rfl, fun k hk => by rw [if_neg (by omega)]⟩
theorem rv_end {l o : List Int} {i : Nat} (h : Rv l o i) (hi : l.length ≤ 2 * i + 1) : o = l.reverse := by
  refine List.ext_getElem? fun k => ?_
  by_cases hk : k < l.length
  · rw [h.at_ k hk, List.getElem?_reverse hk]
    split
    · rfl
    · rw [show l.length - 1 - k = k by omega]
  · rw [List.getElem?_eq_none (by rw [h.len]; omega), List.getElem?_eq_none (by rw [List.length_reverse]; omega)]
theorem rv_step {l o : List Int} {i : Nat} {a b : Int} (h : Rv l o i) (hi : 2 * i + 1 < l.length) (ha : o[i]? = some a) (hb : o[l.length - 1 - i]? = some b) : Rv l ((o.set i b).set (l.length - 1 - i) a) (i + 1) := by
  have hl := h.len
  have ha' := h.at_ i (by omega)
  have hb' := h.at_ (l.length - 1 - i) (by omega)
  rw [ha, if_neg (by omega)] at ha'
  rw [hb, if_neg (by omega)] at hb'
  refine ⟨by rw [List.length_set, List.length_set, hl], fun k hk => ?_⟩
  rw [List.getElem?_set]
  by_cases h1 : l.length - 1 - i = k
  · rw [if_pos h1, if_pos (by rw [List.length_set]; omega), if_pos (by omega), show l.length - 1 - k = i by omega, ha']
  · rw [if_neg h1, List.getElem?_set]
    by_cases h2 : i = k
    · rw [if_pos h2, if_pos (by omega), if_pos (by omega), ← h2, hb']
    · rw [if_neg h2, h.at_ k hk]
      by_cases h3 : k < i ∨ l.length - i ≤ k
      · rw [if_pos h3, if_pos (by omega)]
      · rw [if_neg h3, if_neg (by omega)]
set_option maxRecDepth 100000 in
set_option maxHeartbeats 8000000 in
theorem reverse_any (l : List Int) (post : List Value) (g ty cap : Nat) (w : World) (hg : w.heap[g]? = some (.cells (u8v l ++ post).toArray ty (0, 0))) (hl : l.length ≤ 1000000) :
    Calls Tryz.prog 88 #[.slice (some ⟨g, 0, none⟩) l.length cap] w fun e w' => e = .returned (.tuple #[]) ∧ w'.heap[g]? = some (.cells (u8v l.reverse ++ post).toArray ty (0, 0)) ∧ Mod g w w' := by
  obtain ⟨n, hn⟩ : ∃ n, n = l.length := ⟨_, rfl⟩
  rw [← hn]
  refine calls_sat (cx := Tryz.cxg 28 [3] [] [] w.heap.size [g] w) (Tryz.ok ..) Tryz.func88 rfl [.s 100 g 0 0 n cap] rfl (by show 1 ≤ 28; omega) [(100, .blk g ty (b8 l post))] (holds_set rfl rfl (by rw [b8_r1]; exact hg)) ?_
  repeat' ((conv => whnf); first | refine walk (Tryz.ok ..) ?_ | refine sideL2 ?_ | fail)
  refine sat_loop (Tryz.ok ..) (α := Nat × List Int) (fun s => ([(0, .yes, .s 100 g 0 0 n cap), (2, .yes, .v (.int .i64 s.1)), (3, .yes, .v (.int .i64 ((n : Int) - 1 - s.1)))], [(100, .blk g ty (b8 s.2 post))]))
    (fun s => s.1 ≤ n ∧ Rv l s.2 s.1) (fun s => n - s.1) (fun _ => rfl) ?_ ?_
  · refine ⟨(0, l), ⟨Nat.zero_le _, rv_zero l⟩, ?_, ?_, rfl⟩
    all_goals ((repeat' (first | exact trivial | exact rfl | refine And.intro ?_ ?_)) <;> (try (conv => whnf)) <;> (try simp only [SV.real, SV.r2, SV.r1]))
    all_goals exact congrArg (Value.int .i64) (by omega)
  rintro ⟨k, o⟩ ⟨hk, hrv⟩
  dsimp only at hk hrv
  have hol := hrv.len
  by_cases hlt : 2 * k + 1 < n
  · obtain ⟨a, ha⟩ : ∃ a, o[k]? = some a := ⟨o[k], List.getElem?_eq_getElem (by omega)⟩
    obtain ⟨b, hb⟩ : ∃ b, o[l.length - 1 - k]? = some b := ⟨o[l.length - 1 - k], List.getElem?_eq_getElem (by omega)⟩
    have hst := rv_step hrv (by omega) ha hb
    have l1 : 0 + mulS (k : Int).toNat 1 < (b8 o post).length := b8_lt (k := k) (by omega) rfl
    have l2 : 0 + mulS ((n : Int) - 1 - k).toNat 1 < (b8 o post).length := b8_lt (k := l.length - 1 - k) (by omega) (by omega)
    have l3 : 0 + mulS ((n : Int) - 1 - k).toNat 1 < ((b8 o post).set (0 + mulS (k : Int).toNat 1) (.v (.int .u8 b))).length := by rw [List.length_set]; exact l2
    have l4 : 0 + mulS (k : Int).toNat 1 < ((b8 o post).set (0 + mulS ((n : Int) - 1 - k).toNat 1) (.v (.int .u8 a))).length := by rw [List.length_set]; exact l1
    repeat' ((conv => whnf); first | refine walk (Tryz.ok ..) ?_ | (refine Cnd.mk (fun h => ?_) (fun h => ?_) <;> (first | exact cndT h (by (try dsimp only); omega) | exact cndF h (by (try dsimp only); omega) | (exfalso; simp at h; omega) | simp at h | skip)) | fail)
    refine sat_draw (Tryz.ok ..) [7, 11] [] (by kernel_rfl) (fun w hw => hw.sub trivial) ?_
    repeat' ((conv => whnf); first | refine walk (Tryz.ok ..) ?_ | refine kp ?_ ?_ | refine tw ?_ ?_ | exact trivial | refine side2 ?_ | refine sideL2 ?_ | refine xi _ (b8_at ha rfl) ?_ | refine xi _ (b8_at hb (by omega)) ?_ | fail)
    · skip
      refine ⟨(k + 1, (o.set k b).set (l.length - 1 - k) a), ⟨⟨by show k + 1 ≤ n; omega, hst⟩, by show n - (k + 1) < n - k; omega⟩, ?_, ?_, rfl⟩
      · ((repeat' (first | exact trivial | exact rfl | refine And.intro ?_ ?_)) <;> (try (conv => whnf)) <;> (try simp only [SV.real, SV.r2, SV.r1]))
        all_goals exact congrArg (Value.int .i64) (by omega)
      · dsimp only
        rw [← b8_set (i := (n : Int) - 1 - k) (by rw [List.length_set]; omega) (by omega), ← b8_set (i := (k : Int)) (by omega) rfl]
        ((repeat' (first | exact trivial | exact rfl | refine And.intro ?_ ?_)) <;> (try (conv => whnf)) <;> (try simp only [SV.real, SV.r2, SV.r1]))
    · skip
      refine ⟨(k + 1, (o.set k b).set (l.length - 1 - k) a), ⟨⟨by show k + 1 ≤ n; omega, hst⟩, by show n - (k + 1) < n - k; omega⟩, ?_, ?_, rfl⟩
      · ((repeat' (first | exact trivial | exact rfl | refine And.intro ?_ ?_)) <;> (try (conv => whnf)) <;> (try simp only [SV.real, SV.r2, SV.r1]))
        all_goals exact congrArg (Value.int .i64) (by omega)
      · dsimp only
        rw [← b8_set (i := (n : Int) - 1 - k) (by rw [List.length_set]; omega) (by omega), ← b8_set (i := (k : Int)) (by omega) rfl]
        ((repeat' (first | exact trivial | exact rfl | refine And.intro ?_ ?_)) <;> (try (conv => whnf)) <;> (try simp only [SV.real, SV.r2, SV.r1]))
  · have e1 : o = l.reverse := rv_end hrv (by omega)
    repeat' ((conv => whnf); first | refine walk (Tryz.ok ..) ?_ | (refine Cnd.mk (fun h => ?_) (fun h => ?_) <;> (first | exact cndT h (by (try dsimp only); omega) | exact cndF h (by (try dsimp only); omega) | (exfalso; simp at h; omega) | simp at h | skip)) | fail)
    rw [← e1, ← b8_r1]
    exact done_set (g := g) (ty := ty) (cs := b8 o post) (cs' := b8 o post) rfl rfl 100 rfl rfl rfl
end Go.Proofs.YtmekcdjaafegaaaGreatDoor
