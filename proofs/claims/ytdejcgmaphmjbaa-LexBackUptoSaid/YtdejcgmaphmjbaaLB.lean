/-
  The law LexBegins, walked.
-/
import Derived.Test.YtdejcgmaphmjbaaWA
import Derived.Test.YtdejcgmaphmjbaaRB
set_option linter.unusedSimpArgs false
set_option linter.unusedVariables false
namespace Go.Proofs.Ytdejcgmaphmjbaa
open Go Sat Go.RowKit Go.PlainAid
theorem ext_take (s : ByteArray) (n : Nat) : (s.extract 0 n).data.toList = s.data.toList.take n := by
  rw [ByteArray.data_extract, Array.toList_extract]
  simp
theorem app_list (s t : ByteArray) : (s ++ t).data.toList = s.data.toList ++ t.data.toList := by
  rw [ByteArray.data_append, Array.toList_append]
theorem readE_short {l : List UInt8} (h : l.length ≤ 65536) : readE l = runE l 0 rd0 := by unfold readE; rw [if_neg (by omega)]
theorem read_pos {l : List UInt8} {p q : Int} {x : List Segm} (h : runE l 0 rd0 = (x, p, q)) (hq : q ≠ 0) : x = [] := by
  rw [runE_eq] at h
  split at h
  · cases h; rfl
  · unfold finE at h
    repeat' split at h
    all_goals first | (cases h; rfl) | (cases h; exact absurd rfl hq)
set_option maxRecDepth 100000 in
set_option maxHeartbeats 16000000 in
theorem lexBegins_any (s t : ByteArray) (w : World) : Calls Try.prog 7 #[.string s, .string t] w fun e w' => e = .returned (.bool true) ∧ Below w.heap.size w w' := by
  refine calls_sat (cx := Try.cx 90 [] [] [] w) (Try.ok ..) Try.func7 rfl [.v (.string s), .v (.string t)] rfl (by show 2 ≤ 90; omega) [] (holds_nil (Nat.le_refl _)) ?_
  repeat' ((conv => whnf); first | refine walk (Try.ok ..) ?_ | (refine Cnd.mk (fun h => ?_) (fun h => ?_) <;> (first | exact cndT h (by (try dsimp only); omega) | exact cndF h (by (try dsimp only); omega) | (exfalso; simp at h; omega) | simp at h | skip)) | refine kp ?_ ?_ | refine tw ?_ ?_ | refine appnil rfl ?_ | refine rawnil rfl ?_ | exact trivial | refine side2 ?_ | refine sideL2 ?_ | refine Or.inr ?_ | refine sat_drawH (Try.ok ..) (by kernel_rfl) ?_ | refine xi _ (And.intro rfl rfl) ?_ | refine xi _ (fun _ => And.intro rfl rfl) ?_ | refine xi _ rfl ?_)
  (conv => whnf)
  refine called_pure (.v (.bool true)) rfl (fun w' => awake_any w') ?_
  by_cases hs : 2000 < s.size
  · repeat' ((conv => whnf); first | refine walk (Try.ok ..) ?_ | (refine Cnd.mk (fun h => ?_) (fun h => ?_) <;> (first | exact cndT h (by (try dsimp only); omega) | exact cndF h (by (try dsimp only); omega) | (exfalso; simp at h; omega) | simp at h | skip)) | refine kp ?_ ?_ | refine tw ?_ ?_ | refine appnil rfl ?_ | refine rawnil rfl ?_ | exact trivial | refine side2 ?_ | refine sideL2 ?_ | refine Or.inr ?_ | refine sat_drawH (Try.ok ..) (by kernel_rfl) ?_ | refine xi _ (And.intro rfl rfl) ?_ | refine xi _ (fun _ => And.intro rfl rfl) ?_ | refine xi _ rfl ?_)
    all_goals exact done_pure rfl rfl rfl
  by_cases ht : 2000 < t.size
  · repeat' ((conv => whnf); first | refine walk (Try.ok ..) ?_ | (refine Cnd.mk (fun h => ?_) (fun h => ?_) <;> (first | exact cndT h (by (try dsimp only); omega) | exact cndF h (by (try dsimp only); omega) | (exfalso; simp at h; omega) | simp at h | skip)) | refine kp ?_ ?_ | refine tw ?_ ?_ | refine appnil rfl ?_ | refine rawnil rfl ?_ | exact trivial | refine side2 ?_ | refine sideL2 ?_ | refine Or.inr ?_ | refine sat_drawH (Try.ok ..) (by kernel_rfl) ?_ | refine xi _ (And.intro rfl rfl) ?_ | refine xi _ (fun _ => And.intro rfl rfl) ?_ | refine xi _ rfl ?_)
    all_goals exact done_pure rfl rfl rfl
  obtain ⟨l, hl⟩ : ∃ l, l = s.data.toList := ⟨_, rfl⟩
  have hsz : s.size = l.length := by rw [hl]; rfl
  have htz : t.size = t.data.toList.length := rfl
  obtain ⟨x, p, q, hr⟩ : ∃ x p q, readE l = (x, p, q) := ⟨_, _, _, rfl⟩
  repeat' ((conv => whnf); first | refine walk (Try.ok ..) ?_ | (refine Cnd.mk (fun h => ?_) (fun h => ?_) <;> (first | exact cndT h (by (try dsimp only); omega) | exact cndF h (by (try dsimp only); omega) | (exfalso; simp at h; omega) | simp at h | skip)) | refine kp ?_ ?_ | refine tw ?_ ?_ | refine appnil rfl ?_ | refine rawnil rfl ?_ | exact trivial | refine side2 ?_ | refine sideL2 ?_ | refine Or.inr ?_ | refine sat_drawH (Try.ok ..) (by kernel_rfl) ?_ | refine xi _ (And.intro rfl rfl) ?_ | refine xi _ (fun _ => And.intro rfl rfl) ?_ | refine xi _ rfl ?_)
  (conv => whnf)
  refine called_nest 900 (mk := fun v => .tuple #[v, .int .i64 p, .int .i64 q]) (Q := fun w B v => NL w B v x) (fun v => .t [.v v, .v (.int .i64 p), .v (.int .i64 q)]) (fun _ => rfl) (fun w' _ => by exact read_lit (s := s) (hl ▸ hr) w') ?_
  intro w1 gs1 v1 h1
  by_cases h0 : q = 0
  · subst h0
    repeat' ((conv => whnf); first | refine walk (Try.ok ..) ?_ | (refine Cnd.mk (fun h => ?_) (fun h => ?_) <;> (first | exact cndT h (by (try dsimp only); omega) | exact cndF h (by (try dsimp only); omega) | (exfalso; simp at h; omega) | simp at h | skip)) | refine kp ?_ ?_ | refine tw ?_ ?_ | refine appnil rfl ?_ | refine rawnil rfl ?_ | exact trivial | refine side2 ?_ | refine sideL2 ?_ | refine Or.inr ?_ | refine sat_drawH (Try.ok ..) (by kernel_rfl) ?_ | refine xi _ (And.intro rfl rfl) ?_ | refine xi _ (fun _ => And.intro rfl rfl) ?_ | refine xi _ rfl ?_)
    all_goals exact done_pure rfl rfl rfl
  by_cases h42 : q = 42
  · subst h42
    repeat' ((conv => whnf); first | refine walk (Try.ok ..) ?_ | (refine Cnd.mk (fun h => ?_) (fun h => ?_) <;> (first | exact cndT h (by (try dsimp only); omega) | exact cndF h (by (try dsimp only); omega) | (exfalso; simp at h; omega) | simp at h | skip)) | refine kp ?_ ?_ | refine tw ?_ ?_ | refine appnil rfl ?_ | refine rawnil rfl ?_ | exact trivial | refine side2 ?_ | refine sideL2 ?_ | refine Or.inr ?_ | refine sat_drawH (Try.ok ..) (by kernel_rfl) ?_ | refine xi _ (And.intro rfl rfl) ?_ | refine xi _ (fun _ => And.intro rfl rfl) ?_ | refine xi _ rfl ?_)
    all_goals exact done_pure rfl rfl rfl
  rw [readE_short (by omega)] at hr
  obtain rfl := read_pos hr h0
  obtain ⟨n, rfl, hB⟩ := begins hr h0 h42
  have hn := hB.lt
  obtain ⟨y, p2, q2, hr2⟩ : ∃ x p q, readE (l.take n) = (x, p, q) := ⟨_, _, _, rfl⟩
  have hr2' : readE (s.extract 0 n).data.toList = (y, p2, q2) := by rw [ext_take, ← hl]; exact hr2
  have hb := hB.before
  rw [← readE_short (by rw [List.length_take]; omega), hr2] at hb
  dsimp only at hb
  repeat' ((conv => whnf); first | refine walk (Try.ok ..) ?_ | (refine Cnd.mk (fun h => ?_) (fun h => ?_) <;> (first | exact cndT h (by (try dsimp only); omega) | exact cndF h (by (try dsimp only); omega) | (exfalso; simp at h; omega) | simp at h | skip)) | refine kp ?_ ?_ | refine tw ?_ ?_ | refine appnil rfl ?_ | refine rawnil rfl ?_ | exact trivial | refine side2 ?_ | refine sideL2 ?_ | refine Or.inr ?_ | refine sat_drawH (Try.ok ..) (by kernel_rfl) ?_ | refine xi _ (And.intro rfl rfl) ?_ | refine xi _ (fun _ => And.intro rfl rfl) ?_ | refine xi _ rfl ?_)
  (conv => whnf)
  refine called_nest 901 (mk := fun v => .tuple #[v, .int .i64 p2, .int .i64 q2]) (Q := fun w B v => NL w B v y) (fun v => .t [.v v, .v (.int .i64 p2), .v (.int .i64 q2)]) (fun _ => rfl) (fun w' _ => by exact read_lit (s := s.extract 0 n) hr2' w') ?_
  intro w2 gs2 v2 h2
  have hc : l[n]? = some (l[n]'hn) := List.getElem?_eq_getElem hn
  obtain ⟨c, hc1⟩ : ∃ c, c = l[n]'hn := ⟨_, rfl⟩
  rw [← hc1] at hc
  have hcs : s.data.toList[n]? = some c := by rw [← hl]; exact hc
  have hbt : bt s (n : Int).toNat = (c.toNat : Int) := bt_at hcs
  have haf := hB.after t.data.toList
  have hcc : (l[n]? = some 63) ↔ c.toNat = 63 := by
    rw [hc]
    constructor
    · intro h; cases h; rfl
    · intro h; exact congrArg some (UInt8.toNat_inj.1 (by rw [h]; rfl))
  repeat' ((conv => whnf); first | refine walk (Try.ok ..) ?_ | (refine Cnd.mk (fun h => ?_) (fun h => ?_) <;> (first | exact cndT h (by (try dsimp only); omega) | exact cndF h (by (try dsimp only); omega) | (exfalso; simp at h; omega) | simp at h | skip)) | refine kp ?_ ?_ | refine tw ?_ ?_ | refine appnil rfl ?_ | refine rawnil rfl ?_ | exact trivial | refine side2 ?_ | refine sideL2 ?_ | refine Or.inr ?_ | refine sat_drawH (Try.ok ..) (by kernel_rfl) ?_ | refine xi _ (And.intro rfl rfl) ?_ | refine xi _ (fun _ => And.intro rfl rfl) ?_ | refine xi _ rfl ?_)
  · exact done_pure rfl rfl rfl
  · rename_i h63
    have e63 : l[n]? = some 63 := hcc.2 (by rw [show (n : Int).toNat = n from rfl] at hbt; omega)
    have em : (min ((n : Int) + 2) (s.size : Int)).toNat = min (n + 2) l.length := by omega
    have hE : readE (s.extract 0 (min ((n : Int) + 2) (s.size : Int)).toNat ++ t).data.toList = ([], (n : Int), q) := by
      rw [app_list, ext_take, ← hl, em, readE_short (by rw [List.length_append, List.length_take]; omega)]
      rcases haf with ⟨_, h41, hlen⟩ | h8 | ⟨_, h9⟩
      · exact absurd (by omega) (h h41)
      · rw [if_pos e63] at h8; exact h8
      · exact absurd e63 h9
    (conv => whnf)
    refine called_nest 902 (mk := fun v => .tuple #[v, .int .i64 (n : Int), .int .i64 q]) (Q := fun w B v => NL w B v []) (fun v => .t [.v v, .v (.int .i64 (n : Int)), .v (.int .i64 q)]) (fun _ => rfl) (fun w' _ => by exact read_lit (s := s.extract 0 (min ((n : Int) + 2) (s.size : Int)).toNat ++ t) hE w') ?_
    intro w3 gs3 v3 h3
    repeat' ((conv => whnf); first | refine walk (Try.ok ..) ?_ | (refine Cnd.mk (fun h => ?_) (fun h => ?_) <;> (first | exact cndT h (by (try dsimp only); omega) | exact cndF h (by (try dsimp only); omega) | (exfalso; simp at h; omega) | simp at h | skip)) | refine kp ?_ ?_ | refine tw ?_ ?_ | refine appnil rfl ?_ | refine rawnil rfl ?_ | exact trivial | refine side2 ?_ | refine sideL2 ?_ | refine Or.inr ?_ | refine sat_drawH (Try.ok ..) (by kernel_rfl) ?_ | refine xi _ (And.intro rfl rfl) ?_ | refine xi _ (fun _ => And.intro rfl rfl) ?_ | refine xi _ rfl ?_)
    exact done_pure rfl rfl (congrArg Value.bool (by simp))
  · repeat' ((conv => whnf); first | refine walk (Try.ok ..) ?_ | (refine Cnd.mk (fun h => ?_) (fun h => ?_) <;> (first | exact cndT h (by (try dsimp only); omega) | exact cndF h (by (try dsimp only); omega) | (exfalso; simp at h; omega) | simp at h | skip)) | refine kp ?_ ?_ | refine tw ?_ ?_ | refine appnil rfl ?_ | refine rawnil rfl ?_ | exact trivial | refine side2 ?_ | refine sideL2 ?_ | refine Or.inr ?_ | refine sat_drawH (Try.ok ..) (by kernel_rfl) ?_ | refine xi _ (And.intro rfl rfl) ?_ | refine xi _ (fun _ => And.intro rfl rfl) ?_ | refine xi _ rfl ?_)
    exact done_pure rfl rfl rfl
  · rename_i h63
    have e63 : ¬ l[n]? = some 63 := fun h8 => h63 (by have := hcc.1 h8; rw [show (n : Int).toNat = n from rfl] at hbt; omega)
    have hE : readE (s.extract 0 ((n : Int) + 1).toNat ++ t).data.toList = ([], (n : Int), q) := by
      rw [app_list, ext_take, ← hl, show ((n : Int) + 1).toNat = n + 1 from by omega, readE_short (by rw [List.length_append, List.length_take]; omega)]
      rcases haf with ⟨h8, _, _⟩ | h8 | ⟨h9, _⟩
      · exact absurd h8 e63
      · rw [if_neg e63] at h8; exact h8
      · exact absurd h9 (by omega)
    (conv => whnf)
    refine called_nest 902 (mk := fun v => .tuple #[v, .int .i64 (n : Int), .int .i64 q]) (Q := fun w B v => NL w B v []) (fun v => .t [.v v, .v (.int .i64 (n : Int)), .v (.int .i64 q)]) (fun _ => rfl) (fun w' _ => by exact read_lit (s := s.extract 0 ((n : Int) + 1).toNat ++ t) hE w') ?_
    intro w3 gs3 v3 h3
    repeat' ((conv => whnf); first | refine walk (Try.ok ..) ?_ | (refine Cnd.mk (fun h => ?_) (fun h => ?_) <;> (first | exact cndT h (by (try dsimp only); omega) | exact cndF h (by (try dsimp only); omega) | (exfalso; simp at h; omega) | simp at h | skip)) | refine kp ?_ ?_ | refine tw ?_ ?_ | refine appnil rfl ?_ | refine rawnil rfl ?_ | exact trivial | refine side2 ?_ | refine sideL2 ?_ | refine Or.inr ?_ | refine sat_drawH (Try.ok ..) (by kernel_rfl) ?_ | refine xi _ (And.intro rfl rfl) ?_ | refine xi _ (fun _ => And.intro rfl rfl) ?_ | refine xi _ rfl ?_)
    exact done_pure rfl rfl (congrArg Value.bool (by simp))
end Go.Proofs.Ytdejcgmaphmjbaa
