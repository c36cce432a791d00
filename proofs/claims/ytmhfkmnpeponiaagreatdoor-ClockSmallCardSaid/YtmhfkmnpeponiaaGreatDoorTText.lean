/-
  The text of a time, and the time of a text. No program in sight.
-/
import Derived.Test.YtmhfkmnpeponiaaGreatDoorTNum
import Derived.Lib.SlicesS
set_option linter.unusedSimpArgs false
set_option linter.unusedVariables false
namespace Go.Proofs.YtmhfkmnpeponiaaGreatDoor
open Go.RowKit Go.PlainAid Go.Lib
def dayN : List ByteArray := [⟨#[77, 111, 110]⟩, ⟨#[84, 117, 101]⟩, ⟨#[87, 101, 100]⟩, ⟨#[84, 104, 117]⟩, ⟨#[70, 114, 105]⟩, ⟨#[83, 97, 116]⟩, ⟨#[83, 117, 110]⟩]
def dayB (d : Int) : ByteArray := dayN.getD d.toNat ⟨#[]⟩
def twoB (n : Int) : ByteArray := Sat.strOf [48 + n / 10, 48 + n % 10]
def txB (t : Int) : ByteArray := itB (t / 10080) ++ ⟨#[32]⟩ ++ dayB (t % 10080 / 1440) ++ ⟨#[32]⟩ ++ twoB (t % 10080 % 1440 / 60) ++ ⟨#[58]⟩ ++ twoB (t % 10080 % 60)
def timeOk (n : Int) : Bool := decide (0 ≤ n) && decide (n ≤ 100000000)
theorem timeOk_iff {n : Int} : timeOk n = true ↔ 0 ≤ n ∧ n ≤ 100000000 := by unfold timeOk; simp
def dig (n : Int) : UInt8 := UInt8.ofNat n.toNat
theorem dig_nat {n : Int} (h : 0 ≤ n) (h1 : n ≤ 255) : ((dig n).toNat : Int) = n := by
  unfold dig
  rw [UInt8.toNat_ofNat', Nat.mod_eq_of_lt (by omega)]
  omega
theorem dig_inj {a b : Int} (h : 0 ≤ a) (h1 : a ≤ 255) (h2 : 0 ≤ b) (h3 : b ≤ 255) (e : dig a = dig b) : a = b := by
  have := dig_nat h h1
  rw [e, dig_nat h2 h3] at this
  exact this.symm
def clkL (h m : Int) : List UInt8 := [dig (48 + h / 10), dig (48 + h % 10), 58, dig (48 + m / 10), dig (48 + m % 10)]
def clkB (h m : Int) : ByteArray := ⟨(clkL h m).toArray⟩
theorem txB_data (t : Int) : (txB t).data.toList = itoa (t / 10080) ++ 32 :: ((dayB (t % 10080 / 1440)).data.toList ++ 32 :: clkL (t % 10080 % 1440 / 60) (t % 10080 % 60)) := by
  unfold txB itB twoB clkL dig
  simp [Sat.strOf]
theorem day_facts : ∀ k : Fin 7, (dayN.getD k.val ⟨#[]⟩).data.toList.length = 3 ∧ (32 : UInt8) ∉ (dayN.getD k.val ⟨#[]⟩).data.toList := by decide
theorem day_apart : ∀ i j : Fin 7, (dayN.getD i.val ⟨#[]⟩).data.toList = (dayN.getD j.val ⟨#[]⟩).data.toList → i = j := by decide
theorem day_len {d : Int} (h0 : 0 ≤ d) (h1 : d < 7) : (dayB d).data.toList.length = 3 := (day_facts ⟨d.toNat, by omega⟩).1
theorem day_free {d : Int} (h0 : 0 ≤ d) (h1 : d < 7) : (32 : UInt8) ∉ (dayB d).data.toList := (day_facts ⟨d.toNat, by omega⟩).2
theorem day_inj {d e : Int} (h0 : 0 ≤ d) (h1 : d < 7) (h2 : 0 ≤ e) (h3 : e < 7) (h : (dayB d).data.toList = (dayB e).data.toList) : d = e := by
  have := congrArg Fin.val (day_apart ⟨d.toNat, by omega⟩ ⟨e.toNat, by omega⟩ h)
  dsimp only at this
  omega
theorem day_get {d : Int} (h0 : 0 ≤ d) (h1 : d < 7) : dayN[d.toNat]? = some (dayB d) := by
  unfold dayB
  rw [List.getD_eq_getElem?_getD, List.getElem?_eq_getElem (show d.toNat < dayN.length by show d.toNat < 7; omega)]
  rfl
theorem clk_free {h m : Int} (h0 : 0 ≤ h) (h1 : h < 100) (m0 : 0 ≤ m) (m1 : m < 100) : (32 : UInt8) ∉ clkL h m := by
  have key : ∀ x : Int, 0 ≤ x → x < 10 → (32 : UInt8) ≠ dig (48 + x) := fun x h2 h3 e => by
    have := dig_nat (n := 48 + x) (by omega) (by omega)
    rw [← e] at this
    have e2 : ((32 : UInt8).toNat : Int) = 32 := rfl
    omega
  unfold clkL
  simp only [List.mem_cons, List.not_mem_nil, or_false, not_or]
  exact ⟨key _ (by omega) (by omega), key _ (by omega) (by omega), by decide, key _ (by omega) (by omega), key _ (by omega) (by omega)⟩
theorem tx_bd {t : Int} (h : timeOk t = true) : (0 ≤ t / 10080 ∧ t / 10080 ≤ 9920) ∧ (0 ≤ t % 10080 / 1440 ∧ t % 10080 / 1440 < 7) ∧ (0 ≤ t % 10080 % 1440 / 60 ∧ t % 10080 % 1440 / 60 < 24) ∧ (0 ≤ t % 10080 % 60 ∧ t % 10080 % 60 < 60) := by
  rw [timeOk_iff] at h
  omega
theorem tx_cut {t : Int} (h : timeOk t = true) : cutAt 32 (txB t).data.toList = [itoa (t / 10080), (dayB (t % 10080 / 1440)).data.toList, clkL (t % 10080 % 1440 / 60) (t % 10080 % 60)] := by
  obtain ⟨h1, h2, h3, h4⟩ := tx_bd h
  rw [txB_data]
  exact cutAt_of_three (itoa_no_blank h1.1) (day_free h2.1 h2.2) (clk_free h3.1 (by omega) h4.1 (by omega))
theorem clk_inj {a b c d : Int} (h : 0 ≤ a ∧ a < 100) (h1 : 0 ≤ b ∧ b < 100) (h2 : 0 ≤ c ∧ c < 100) (h3 : 0 ≤ d ∧ d < 100) (e : clkL a b = clkL c d) : a = c ∧ b = d := by
  unfold clkL at e
  simp only [List.cons.injEq, and_true, true_and] at e
  obtain ⟨e1, e2, e3, e4⟩ := e
  have q1 := dig_inj (by omega) (by omega) (by omega) (by omega) e1
  have q2 := dig_inj (by omega) (by omega) (by omega) (by omega) e2
  have q3 := dig_inj (by omega) (by omega) (by omega) (by omega) e3
  have q4 := dig_inj (by omega) (by omega) (by omega) (by omega) e4
  omega
theorem tx_inj {a b : Int} (ha : timeOk a = true) (hb : timeOk b = true) (h : txB a = txB b) : a = b := by
  have h1 := tx_cut ha
  rw [h, tx_cut hb] at h1
  obtain ⟨a1, a2, a3, a4⟩ := tx_bd ha
  obtain ⟨b1, b2, b3, b4⟩ := tx_bd hb
  simp only [List.cons.injEq, and_true] at h1
  obtain ⟨e1, e2, e3⟩ := h1
  have q1 := itB_inj b1.1 a1.1 e1
  have q2 := day_inj b2.1 b2.2 a2.1 a2.2 e2
  have q3 := clk_inj ⟨b3.1, by omega⟩ ⟨b4.1, by omega⟩ ⟨a3.1, by omega⟩ ⟨a4.1, by omega⟩ e3
  rw [timeOk_iff] at ha hb
  omega
open Classical in
noncomputable def rdT (s : ByteArray) : Option Int := if h : ∃ t, timeOk t = true ∧ txB t = s then some (Classical.choose h) else none
theorem rd_of {s : ByteArray} {t : Int} (h1 : timeOk t = true) (h2 : txB t = s) : rdT s = some t := by
  have h : ∃ t, timeOk t = true ∧ txB t = s := ⟨t, h1, h2⟩
  unfold rdT
  rw [dif_pos h]
  obtain ⟨g1, g2⟩ := Classical.choose_spec h
  rw [tx_inj g1 h1 (g2.trans h2.symm)]
theorem rd_some {s : ByteArray} {t : Int} (h : rdT s = some t) : timeOk t = true ∧ txB t = s := by
  unfold rdT at h
  split at h
  · rename_i h1
    injection h with h
    subst h
    exact Classical.choose_spec h1
  · cases h
theorem rd_none {s : ByteArray} (h : ∀ t, timeOk t = true → txB t = s → False) : rdT s = none := by
  cases hp : rdT s with
  | none => rfl
  | some t => exact absurd (rd_some hp).2 (fun e => h t (rd_some hp).1 e)
noncomputable def rdV (s : ByteArray) : Int := (rdT s).getD 0
noncomputable def rdE (s : ByteArray) : Int := if (rdT s).isSome then 0 else 20
theorem rd_yes {s : ByteArray} {t : Int} (h1 : timeOk t = true) (h2 : txB t = s) : rdV s = t ∧ rdE s = 0 := by unfold rdV rdE; rw [rd_of h1 h2]; exact ⟨rfl, rfl⟩
theorem rd_no {s : ByteArray} (h : ∀ t, timeOk t = true → txB t = s → False) : rdV s = 0 ∧ rdE s = 20 := by unfold rdV rdE; rw [rd_none h]; exact ⟨rfl, rfl⟩
/-- what the pieces of a time's text are -/
theorem tx_pieces {t : Int} {s : ByteArray} (h : timeOk t = true) (hs : txB t = s) : pieces s = [itB (t / 10080), dayB (t % 10080 / 1440), clkB (t % 10080 % 1440 / 60) (t % 10080 % 60)] := by
  have hd := pieces_data s
  rw [← hs, tx_cut h] at hd
  rw [hs] at hd
  have hl := congrArg List.length hd
  rw [List.length_map] at hl
  match hp : pieces s, hl with
  | [a, b, c'], _ =>
    rw [hp] at hd
    simp only [List.map_cons, List.map_nil, List.cons.injEq, and_true] at hd
    rw [ba_ext (a := a) (b := itB (t / 10080)) (by rw [hd.1]; simp [itB]), ba_ext (a := b) (b := dayB (t % 10080 / 1440)) hd.2.1, ba_ext (a := c') (b := clkB (t % 10080 % 1440 / 60) (t % 10080 % 60)) (by rw [hd.2.2]; simp [clkB])]
theorem two_atoi {n : Int} (h0 : 0 ≤ n) (h1 : n < 100) : atoiAll (twoB n).data.toList = .ok n := by
  have key : ∀ k : Fin 100, atoiAll [UInt8.ofNat (48 + k.val / 10), UInt8.ofNat (48 + k.val % 10)] = .ok (k.val : Int) := by decide
  have := key ⟨n.toNat, by omega⟩
  dsimp only at this
  rw [show ((n.toNat : Nat) : Int) = n by omega] at this
  rw [← this]
  unfold twoB
  simp only [Sat.strOf, List.foldl_cons, List.foldl_nil]
  rw [show (48 + n / 10).toNat = 48 + n.toNat / 10 by omega, show (48 + n % 10).toNat = 48 + n.toNat % 10 by omega]
  rfl
theorem clk_hour (h m : Int) : (clkB h m).extract (0 : Int).toNat (2 : Int).toNat = twoB h := by
  apply ba_ext
  rw [ByteArray.data_extract, Array.toList_extract]
  rfl
theorem clk_minute (h m : Int) : (clkB h m).extract (3 : Int).toNat ((5 : Int)).toNat = twoB m := by
  apply ba_ext
  rw [ByteArray.data_extract, Array.toList_extract]
  rfl
theorem clk_size (h m : Int) : (clkB h m).size = 5 := rfl
/-- where a text is among the names -/
def dixN (x : ByteArray) : Int := Lib.idxOfS dayN x
theorem dix_day {d : Int} (h0 : 0 ≤ d) (h1 : d < 7) : dixN (dayB d) = d := by
  have key : ∀ k : Fin 7, dixN (dayB (k.val : Int)) = (k.val : Int) := by decide
  have := key ⟨d.toNat, by omega⟩
  dsimp only at this
  rw [show ((d.toNat : Nat) : Int) = d by omega] at this
  exact this
theorem idxFrom_bd (x : ByteArray) : ∀ (zs : List ByteArray) (i : Nat), Lib.idxFromS zs x i = -1 ∨ ((i : Int) ≤ Lib.idxFromS zs x i ∧ Lib.idxFromS zs x i < i + zs.length) := by
  intro zs
  induction zs with
  | nil => intro i; exact .inl rfl
  | cons z zs ih =>
    intro i
    unfold Lib.idxFromS
    rw [List.length_cons]
    split
    · right; omega
    · rcases ih (i + 1) with h | h
      · exact .inl h
      · right; omega
theorem dix_bd (x : ByteArray) : -1 ≤ dixN x ∧ dixN x < 7 := by
  have h := idxFrom_bd x dayN 0
  have e : dayN.length = 7 := rfl
  unfold dixN Lib.idxOfS
  omega
/-- a time's parts -/
theorem tx_parts {t : Int} : t = t / 10080 * 10080 + t % 10080 / 1440 * 1440 + t % 10080 % 1440 / 60 * 60 + t % 10080 % 60 := by omega
/-- the first bytes of a text, read as digits without a look at them -/
def rwT (s : ByteArray) : Nat → Int
  | 0 => 0
  | n + 1 => 10 * rwT s n + bt s n - 48
theorem rwT_bd (s : ByteArray) : ∀ n, n ≤ 5 → -1000000 ≤ rwT s n ∧ rwT s n ≤ 5000000 := by
  have h := fun k => And.intro (bt_nonneg s k) (bt_le s k)
  intro n hn
  match n, hn with
  | 0, _ => simp [rwT]
  | 1, _ => have := h 0; simp only [rwT]; omega
  | 2, _ => have := h 0; have := h 1; simp only [rwT]; omega
  | 3, _ => have := h 0; have := h 1; have := h 2; simp only [rwT]; omega
  | 4, _ => have := h 0; have := h 1; have := h 2; have := h 3; simp only [rwT]; omega
  | 5, _ => have := h 0; have := h 1; have := h 2; have := h 3; have := h 4; simp only [rwT]; omega
theorem rwT_dv {s : ByteArray} {l r : List UInt8} (hs : s.data.toList = l ++ r) (hd : ∀ b ∈ l, isD b = true) : ∀ n, n ≤ l.length → rwT s n = (dv (l.take n) : Nat) := by
  intro n
  induction n with
  | zero => intro _; rfl
  | succ n ih =>
    intro hn
    have hb := List.getElem?_eq_getElem (show n < l.length by omega)
    have hbs : s.data.toList[n]? = some l[n] := by rw [hs, List.getElem?_append_left (by omega)]; exact hb
    have hdig := hd _ (List.getElem_mem (show n < l.length by omega))
    unfold isD at hdig
    simp only [Bool.and_eq_true, decide_eq_true_eq] at hdig
    rw [rwT, ih (by omega), bt_at hbs, List.take_add_one, hb, Option.toList_some, dv_snoc]
    omega
/-- the text of a time, byte by byte -/
structure TxAt (s : ByteArray) (t : Int) (n : Nat) : Prop where
  len : s.size = n + 10
  n1 : 1 ≤ n ∧ n ≤ 5
  week : rwT s n = t / 10080
  h1 : bt s (n + 5) = 48 + t % 10080 % 1440 / 60 / 10
  h2 : bt s (n + 6) = 48 + t % 10080 % 1440 / 60 % 10
  m1 : bt s (n + 8) = 48 + t % 10080 % 60 / 10
  m2 : bt s (n + 9) = 48 + t % 10080 % 60 % 10
theorem tx_at {s : ByteArray} {t : Int} (h : timeOk t = true) (hs : txB t = s) : ∃ n, TxAt s t n := by
  obtain ⟨b1, b2, b3, b4⟩ := tx_bd h
  obtain ⟨l, hl⟩ : ∃ l, l = itoa (t / 10080) := ⟨_, rfl⟩
  have hd := txB_data t
  rw [hs, ← hl] at hd
  have hdl := day_len b2.1 b2.2
  obtain ⟨dl, hdd⟩ : ∃ dl, dl = (dayB (t % 10080 / 1440)).data.toList := ⟨_, rfl⟩
  rw [← hdd] at hd hdl
  have hsz : s.size = l.length + 10 := by
    have := congrArg List.length hd
    simp only [List.length_append, List.length_cons, hdl, clkL, List.length_nil] at this
    simpa using this
  have hlen : l.length ≤ 5 := by
    have := itB_len b1.1 (show t / 10080 ≤ 99999 by omega)
    unfold itB at this
    rw [← hl] at this
    simpa [ByteArray.size] using this
  have hne : l ≠ [] := by rw [hl, itoa_pos b1.1]; exact dec_ne _
  have hpos : 1 ≤ l.length := List.length_pos_iff.2 hne
  have hdg : ∀ b ∈ l, isD b = true := by rw [hl, itoa_pos b1.1]; exact dec_isD _
  have at_ : ∀ k : Nat, k < 5 → s.data.toList[l.length + 5 + k]? = (clkL (t % 10080 % 1440 / 60) (t % 10080 % 60))[k]? := by
    intro k hk
    rw [hd, List.getElem?_append_right (by omega)]
    rw [show l.length + 5 + k - l.length = (4 + k) + 1 by omega, List.getElem?_cons_succ, List.getElem?_append_right (by omega), hdl, show 4 + k - 3 = k + 1 by omega, List.getElem?_cons_succ]
  have get : ∀ (k : Nat) (v : Int), k < 5 → 0 ≤ v → v ≤ 255 → (clkL (t % 10080 % 1440 / 60) (t % 10080 % 60))[k]? = some (dig v) → bt s (l.length + 5 + k) = v := by
    intro k v hk h0 h1 e
    rw [bt_at (by rw [at_ k hk]; exact e), dig_nat h0 h1]
  refine ⟨l.length, hsz, ⟨hpos, hlen⟩, ?_, get 0 _ (by omega) (by omega) (by omega) rfl, get 1 _ (by omega) (by omega) (by omega) rfl, get 3 _ (by omega) (by omega) (by omega) rfl, get 4 _ (by omega) (by omega) (by omega) rfl⟩
  rw [rwT_dv hd hdg _ (Nat.le_refl _), List.take_length, hl, itoa_pos b1.1, dv_dec]
  omega
end Go.Proofs.YtmhfkmnpeponiaaGreatDoor
