/- The text of a word: what word.Text answers; the parser reads it back. -/
import Derived.Test.YthiehmogphknlaaGreatDoorLawKit
import Derived.Lib.Join
namespace Go.Proofs.YthiehmogphknlaaGreatDoor.Laws
open Go.RowKit Go.Proofs.YthiehmogphknlaaGreatDoor.G Go.Proofs.YthiehmogphknlaaGreatDoor.PA Go.Proofs.YthiehmogphknlaaGreatDoorW.PrintWords Go.Proofs.YthiehmogphknlaaGreatDoor.Free Go.Proofs.YthiehmogphknlaaGreatDoor.Pure1 Go.Proofs.YthiehmogphknlaaGreatDoor.Parse

/-- One run: a letter, and how often it stands. -/
def piece (c : UInt8) (n : Nat) : List UInt8 := if 1 < n then c :: 94 :: Lib.itoa (n : Int) else [c]
def piecesF : Nat → List UInt8 → List (List UInt8)
  | 0, _ => []
  | _ + 1, [] => []
  | f + 1, c :: l => piece c (1 + (l.takeWhile (· == c)).length) :: piecesF f (l.dropWhile (· == c))
def textL (l : List UInt8) : List UInt8 := if l = [] then [49] else Lib.join (piecesF l.length l) [32]

theorem num_all : ∀ n : Fin 1001, (Lib.itoa ((n : Nat) : Int)).all isD = true ∧ (1 ≤ (Lib.itoa ((n : Nat) : Int)).length ∧ (Lib.itoa ((n : Nat) : Int)).length ≤ 4) ∧ Lib.atoi (Lib.itoa ((n : Nat) : Int)) = some ((n : Nat) : Int) := by decide +kernel

theorem tw_dw (p : UInt8 → Bool) (l : List UInt8) : l.drop (l.takeWhile p).length = l.dropWhile p := by
  have h := List.takeWhile_append_dropWhile (p := p) (l := l)
  conv => lhs; arg 2; rw [← h]
  rw [List.drop_append_of_le_length (Nat.le_refl _), List.drop_length, List.nil_append]
theorem tw_len (p : UInt8 → Bool) (l : List UInt8) : (l.takeWhile p).length + (l.dropWhile p).length = l.length := by
  have h := congrArg List.length (List.takeWhile_append_dropWhile (p := p) (l := l))
  rwa [List.length_append] at h
theorem tw_rep (c : UInt8) : ∀ l : List UInt8, l.takeWhile (· == c) = List.replicate (l.takeWhile (· == c)).length c
  | [] => rfl
  | x :: l => by
    by_cases h : x = c
    · rw [List.takeWhile_cons_of_pos (by simpa using h), List.length_cons, List.replicate_succ, h]
      congr 1
      exact tw_rep c l
    · rw [List.takeWhile_cons_of_neg (by simpa using h)]; rfl
theorem rep_one (c : UInt8) : ∀ n, Lib.repeatL [c] n = List.replicate n c
  | 0 => rfl
  | n + 1 => by show [c] ++ Lib.repeatL [c] n = _; rw [rep_one c n, List.replicate_succ]; rfl

theorem join_len : ∀ (xs : List (List UInt8)), (∀ x ∈ xs, x.length ≤ 30) → (Lib.join xs [32]).length ≤ 31 * xs.length
  | [], _ => by rw [Lib.join_nil]; simp
  | x :: r, h => by
    rw [Lib.join_cons, List.length_append, List.length_cons]
    have h1 := h x (by simp)
    have h2 : (Lib.joinTail [32] r).length ≤ 31 * r.length := by
      clear h1
      have h3 : ∀ y ∈ r, y.length ≤ 30 := fun y hy => h y (List.mem_cons_of_mem _ hy)
      clear h
      unfold Lib.joinTail
      induction r with
      | nil => simp
      | cons y r ih =>
        have h4 := h3 y (by simp)
        have h5 := ih (fun z hz => h3 z (List.mem_cons_of_mem _ hz))
        simp only [List.map_cons, List.flatten_cons, List.length_append, List.length_cons, List.length_nil] at h5 ⊢
        omega
    omega
theorem piece_len (c : UInt8) (n : Nat) (hn : n ≤ 1000) : (piece c n).length ≤ 30 := by
  unfold piece
  split
  · have := (num_all ⟨n, by omega⟩).2.1.2
    simp only [List.length_cons]
    simp only at this
    omega
  · simp
theorem pieces_len : ∀ (f : Nat) (l : List UInt8), l.length ≤ 1000 → ∀ x ∈ piecesF f l, x.length ≤ 30
  | 0, _, _, x, hx => by cases hx
  | _ + 1, [], _, x, hx => by cases hx
  | f + 1, c :: l, h, x, hx => by
    have h1 := tw_len (· == c) l
    rw [List.length_cons] at h
    rcases List.mem_cons.1 hx with rfl | hx
    · exact piece_len c _ (by omega)
    · exact pieces_len f _ (by omega) x hx
theorem pieces_count : ∀ (f : Nat) (l : List UInt8), (piecesF f l).length ≤ l.length
  | 0, _ => Nat.zero_le _
  | _ + 1, [] => Nat.le_refl _
  | f + 1, c :: l => by
    have h1 := tw_len (· == c) l
    have h2 := pieces_count f (l.dropWhile (· == c))
    simp only [piecesF, List.length_cons]
    omega

theorem text_l0 : ∀ (f : Nat) (l : List UInt8) (acc : List ByteArray), l.length ≤ f → l.length + acc.length ≤ 1000 → (∀ c ∈ l, isL c = true) → (∀ x ∈ acc, x.size ≤ 30) →
    Ev (fun k => word_Text.l0 k (B l) acc) (B (Lib.join (acc.map L ++ piecesF f l) [32])) := by
  have done : ∀ (acc : List ByteArray), acc.length ≤ 1000 → (∀ x ∈ acc, x.size ≤ 30) → Ev (fun k => word_Text.l0 k (B []) acc) (B (Lib.join (acc.map L) [32])) := by
    intro acc h1 h2
    have h3 : (Lib.join (acc.map L) [32]).length ≤ 31 * acc.length := by
      have := join_len (acc.map L) (fun x hx => by
        obtain ⟨y, hy, rfl⟩ := List.mem_map.1 hx
        have := h2 y hy
        rwa [size_L] at this)
      rwa [List.length_map] at this
    refine ev_some _ _ (fun k => ?_)
    simp only [word_Text.l0]
    rw [if_pos (by rw [toList_L, L_B])]
    unfold strings_Join.f
    rw [if_pos]
    · rfl
    · exact ⟨by omega, by show (Lib.join (acc.map L) [32]).length ≤ _; omega⟩
  intro f
  induction f with
  | zero =>
    intro l acc hl hs _ ha
    obtain rfl := List.eq_nil_of_length_eq_zero (Nat.le_zero.1 hl)
    rw [piecesF, List.append_nil]
    exact done acc (by omega) ha
  | succ f ih =>
    intro l acc hl hs hL ha
    cases l with
    | nil =>
      rw [piecesF, List.append_nil]
      exact done acc (by omega) ha
    | cons c l =>
      obtain ⟨n, hn⟩ : ∃ n, 1 + (l.takeWhile (· == c)).length = n := ⟨_, rfl⟩
      have htw := tw_len (· == c) l
      have hdw := tw_dw (· == c) l
      rw [List.length_cons] at hl hs
      have hc := isL_ascii c (hL c (by simp))
      have e1 : (B (c :: l)).extract 0 1 = B [c] := by rw [extract_L, L_B]; rfl
      have hdrop : (c :: l).dropWhile (· == c) = l.dropWhile (· == c) := List.dropWhile_cons_of_pos (by simp)
      have ecut : word_cutLeft.f (B (c :: l)) (B [c]) = some (B (l.dropWhile (· == c))) := by
        unfold word_cutLeft.f
        rw [if_pos]
        · show some (B ((c :: l).dropWhile (· == c))) = _
          rw [hdrop]
        · refine ⟨?_, ?_, rfl, ?_⟩
          · unfold ascii
            rw [List.all_eq_true]
            intro b hb
            simpa using isL_ascii b (hL b hb)
          · unfold ascii
            rw [List.all_eq_true]
            intro b hb
            have : b ∈ [c] := hb
            rw [List.mem_singleton] at this
            subst this
            simpa using hc
          · rw [size_B, List.length_cons]; omega
      have hw : wrap64 (((B (c :: l)).size : Int) - ((B (l.dropWhile (· == c))).size : Int)) = (n : Int) := by
        rw [size_B, size_B, List.length_cons, w64 _ (by omega) (by omega)]; omega
      have hsz : (B (c :: l)).size = l.length + 1 := by rw [size_B, List.length_cons]
      have erest : (B (c :: l)).extract ((n : Int)).toNat (B (c :: l)).size = B (l.dropWhile (· == c)) := by
        rw [extract_L, L_B, Int.toNat_natCast, ← hn, Nat.add_comm 1, List.drop_succ_cons, hdw, List.take_of_length_le (by rw [hsz]; omega)]
      have hrec : ∀ (x : List UInt8), x = piece c n → Ev (fun k => word_Text.l0 k (B (l.dropWhile (· == c))) (acc ++ [B x])) (B (Lib.join (acc.map L ++ piecesF (f + 1) (c :: l)) [32])) := by
        intro x hx
        have hp := piece_len c n (by omega)
        have := ih (l.dropWhile (· == c)) (acc ++ [B x]) (by omega) (by rw [List.length_append, List.length_singleton]; omega)
          (fun b hb => hL b (List.mem_cons_of_mem _ ((List.dropWhile_sublist _).subset hb)))
          (fun y hy => by
            rcases List.mem_append.1 hy with hy | hy
            · exact ha y hy
            · rw [List.mem_singleton] at hy
              subst hy
              rw [size_B, hx]; exact hp)
        rw [List.map_append, List.append_assoc] at this
        rw [piecesF, hn, ← hx]
        exact this
      by_cases h1 : 1 < n
      · have hit : (Lib.itoa (n : Int)).length ≤ 4 := (num_all ⟨n, by omega⟩).2.1.2
        have eit : strconv_Itoa.f (n : Int) = some (B (Lib.itoa (n : Int))) := by
          unfold strconv_Itoa.f
          rw [if_pos (by omega)]; rfl
        have ex : B [c] ++ ((⟨#[94]⟩ : ByteArray) ++ B (Lib.itoa (n : Int))) = B (c :: 94 :: Lib.itoa (n : Int)) := by
          have : (⟨#[94]⟩ : ByteArray) = B [94] := rfl
          rw [this, B_append, B_append]; rfl
        have hb1 : 1 + (B (Lib.itoa (n : Int))).size ≤ 9223372036854775807 := by rw [size_B]; omega
        have hb2 : (B [c]).size + ((⟨#[94]⟩ : ByteArray) ++ B (Lib.itoa (n : Int))).size ≤ 9223372036854775807 := by
          have : (⟨#[94]⟩ : ByteArray) = B [94] := rfl
          rw [this, B_append, size_B, size_B]
          simp only [List.length_cons, List.length_append, List.length_nil]
          omega
        refine Ev.step (fun k => ?_) (hrec (c :: 94 :: Lib.itoa (n : Int)) (by unfold piece; rw [if_pos h1]))
        simp only [word_Text.l0]
        rw [if_neg (by rw [toList_L, L_B]; simp), if_pos (by omega), if_pos (by omega), e1, ecut]
        simp only [Option.bind_some]
        rw [hw, if_pos (by omega), eit]
        simp only [Option.bind_some]
        rw [if_pos hb1, if_pos hb2, if_pos (by omega), if_pos (by omega), if_pos (by omega), erest, ex]
      · refine Ev.step (fun k => ?_) (hrec [c] (by unfold piece; rw [if_neg h1]))
        simp only [word_Text.l0]
        rw [if_neg (by rw [toList_L, L_B]; simp), if_pos (by omega), if_pos (by omega), e1, ecut]
        simp only [Option.bind_some]
        rw [hw, if_neg (by omega), if_pos (by omega), if_pos (by omega), if_pos (by omega), erest]

theorem Text_ev {s : ByteArray} (h : Sw s) : Ev (fun k => word_Text.f k s) (B (textL (L s))) := by
  have h1 := h.1
  unfold word_Text.f textL
  rw [is_f s (by omega), decide_eq_true (sw_wd h)]
  simp only [Option.bind_some, if_true]
  by_cases hn : L s = []
  · have e : s.toList = ([] : List UInt8) := by rw [toList_L, hn]
    rw [if_pos hn]
    simp only [if_pos e]
    exact Ev.now _
  · have e : ¬ s.toList = ([] : List UInt8) := by rw [toList_L]; exact hn
    rw [if_neg hn]
    simp only [if_neg e]
    have := text_l0 (L s).length (L s) [] (Nat.le_refl _) (by rw [← size_L]; simpa using h1) h.2 (fun _ h => by cases h)
    rw [B_L] at this
    exact this

/-! ### the parser reads it back -/
theorem trim_letter (c : UInt8) (l : List UInt8) (h : c ≠ 32) : trimL (c :: l) = c :: l := by
  unfold trimL Lib.trimLeftB
  rw [List.dropWhile_cons_of_neg (by simpa using h)]
theorem trim_blank (l : List UInt8) : trimL (32 :: l) = trimL l := by
  unfold trimL Lib.trimLeftB
  rw [List.dropWhile_cons_of_pos (by simp)]
theorem trim_nil : trimL [] = [] := rfl
theorem letter_ne {c : UInt8} (h : isL c = true) (n : Int) (hn : n < 65 ∨ (73 ≤ n ∧ n < 97)) : (c.toNat : Int) ≠ n := by
  have := letter_range c h
  omega
theorem letter_blank {c : UInt8} (h : isL c = true) : c ≠ 32 := by
  intro e
  have := letter_range c h
  rw [e] at this
  revert this
  decide
theorem idx_letter {c : UInt8} (h : isL c = true) : 0 ≤ idx (c.toNat : Int) ∧ idx (c.toNat : Int) < 16 := by
  have h1 : 0 ≤ idx (c.toNat : Int) := of_decide_eq_true h
  have := idx_le (c.toNat : Int)
  omega
theorem pow_one (c : UInt8) (n : Nat) (h1 : 1 ≤ n) (h2 : n ≤ 1000) : powL [c] (n : Int) = some (List.replicate n c) := by
  have e : cyc (red [c]) = ([], [c]) := rfl
  unfold powL
  rw [e]
  have hn : ¬ (n : Int) < 0 := by omega
  have h3 : ¬ ([c] = [] ∨ (n : Int) = 0) := by simp; omega
  have h4 : ¬ (100000 < n ∨ 100000 < [c].length * n + 2 * ([] : List UInt8).length) := by simp; omega
  simp only [if_neg hn, if_neg h3, Int.natAbs_natCast]
  rw [if_neg h4, rep_one]
  simp [inv_nil]

/-- What stands behind a run: nothing, or a blank and more. -/
def Behind (r : List UInt8) : Prop := r = [] ∨ ∃ x, r = 32 :: x
theorem Behind.tail {r : List UInt8} (h : Behind r) : (hdC r = 0 ∧ r = []) ∨ hdC r = 32 := by
  rcases h with rfl | ⟨x, rfl⟩
  · exact .inl ⟨rfl, rfl⟩
  · exact .inr rfl
theorem digs_app (a r : List UInt8) (ha : a.all isD = true) (hr : Behind r) : digs (a ++ r) = a := by
  rw [digs_eq, List.takeWhile_append_of_pos (by simpa using ha)]
  rcases hr with rfl | ⟨x, rfl⟩
  · simp
  · rw [List.takeWhile_cons_of_neg (by decide), List.append_nil]

theorem expo_num (n : Nat) (hn : n ≤ 1000) (r : List UInt8) (hr : Behind r) : expoP (Lib.itoa (n : Int) ++ r) = some ((n : Int), r) := by
  obtain ⟨h1, ⟨h2, h3⟩, h4⟩ := num_all ⟨n, by omega⟩
  simp only at h1 h2 h3 h4
  obtain ⟨x, t, hx⟩ : ∃ x t, Lib.itoa (n : Int) = x :: t := by
    cases he : Lib.itoa (n : Int) with
    | nil => rw [he] at h2; simp at h2
    | cons x t => exact ⟨x, t, rfl⟩
  have hxd : isD x = true := by
    rw [hx, List.all_cons, Bool.and_eq_true] at h1
    exact h1.1
  have hx2 : 48 ≤ x.toNat ∧ x.toNat ≤ 57 := by
    unfold isD at hxd
    simpa using hxd
  have ht : trimL (Lib.itoa (n : Int) ++ r) = Lib.itoa (n : Int) ++ r := by
    rw [hx, List.cons_append, trim_letter]
    intro e
    rw [e] at hx2
    revert hx2
    decide
  have hm : ¬ hdC (Lib.itoa (n : Int) ++ r) = 45 := by
    rw [hx, List.cons_append]
    show ¬ (x.toNat : Int) = 45
    omega
  have hd := digs_app _ r h1 hr
  unfold expoP
  simp only
  rw [ht, if_neg hm, ht, hd, if_neg (by omega), h4, List.drop_append_of_le_length (Nat.le_refl _), List.drop_length, List.nil_append]
  simp [hm]

theorem base_letter (S : Int → List UInt8 → Bool → Res (List UInt8)) (d : Int) (c : UInt8) (h : isL c = true) (t : List UInt8) (o : Bool) : baseP S 8 d (c :: t) o = some (some ([c], t, o)) := by
  have hi := idx_letter h
  have hne : (c.toNat : Int) ≠ 0 := letter_ne h 0 (by omega)
  unfold baseP
  simp only
  rw [trim_letter c t (letter_blank h)]
  show (if (c.toNat : Int) = 49 then _ else if (c.toNat : Int) = 40 then _ else if (c.toNat : Int) = 91 then _ else if (c.toNat : Int) ≠ 0 ∧ 0 ≤ idx (c.toNat : Int) ∧ idx (c.toNat : Int) < 2 * 8 then _ else _) = _
  rw [if_neg (letter_ne h 49 (by omega)), if_neg (letter_ne h 40 (by omega)), if_neg (letter_ne h 91 (by omega)), if_pos ⟨hne, hi.1, by omega⟩]
  rfl

theorem factor_piece (S : Int → List UInt8 → Bool → Res (List UInt8)) (d : Int) (c : UInt8) (h : isL c = true) (n : Nat) (h1 : 1 ≤ n) (h2 : n ≤ 1000) (r : List UInt8) (hr : Behind r) (ht : hdC (trimL r) ≠ 94) :
    ∃ r', factorP (baseP S 8 d) (piece c n ++ r) false = some (some (List.replicate n c, r', false)) ∧ trimL r' = trimL r := by
  unfold piece factorP
  by_cases hn : 1 < n
  · rw [if_pos hn, List.cons_append, base_letter S d c h]
    refine ⟨r, ?_, rfl⟩
    simp only [Res.bind]
    rw [List.cons_append, trim_letter 94 _ (by decide)]
    rw [if_neg (by simp [hdC]), List.tail_cons, expo_num n h2 r hr]
    simp only
    have ho : over ([c].length * ((n : Int)).natAbs) false = false := by
      unfold over
      rw [Int.natAbs_natCast]
      simp
      omega
    rw [ho, pow_one c n h1 h2]
    simp
  · obtain rfl : n = 1 := by omega
    rw [if_neg hn, List.cons_append, base_letter S d c h]
    refine ⟨trimL r, ?_, trim_trim r⟩
    simp only [Res.bind]
    rw [List.nil_append, if_pos ht]
    rfl

theorem piece_head (c : UInt8) (n : Nat) : ∃ t, piece c n = c :: t := by
  unfold piece
  split
  · exact ⟨_, rfl⟩
  · exact ⟨_, rfl⟩
theorem pieces_ne : ∀ (f : Nat) (c : UInt8) (l : List UInt8), piecesF (f + 1) (c :: l) = piece c (1 + (l.takeWhile (· == c)).length) :: piecesF f (l.dropWhile (· == c)) := fun _ _ _ => rfl

theorem behind_tail (ps : List (List UInt8)) : Behind (Lib.joinTail [32] ps) := by
  cases ps with
  | nil => exact .inl rfl
  | cons p ps => exact .inr ⟨p ++ Lib.joinTail [32] ps, rfl⟩
/-- The blank ahead of the next run is passed. -/
theorem trim_tail (f : Nat) (l : List UInt8) (hl : l.length ≤ f) (hL : ∀ c ∈ l, isL c = true) : trimL (Lib.joinTail [32] (piecesF f l)) = Lib.join (piecesF f l) [32] := by
  cases l with
  | nil => cases f <;> rfl
  | cons c l =>
    obtain ⟨f, rfl⟩ : ∃ g, f = g + 1 := ⟨f - 1, by rw [List.length_cons] at hl; omega⟩
    rw [pieces_ne, Lib.join_cons]
    show trimL (32 :: (piece c (1 + (l.takeWhile (· == c)).length) ++ Lib.joinTail [32] (piecesF f (l.dropWhile (· == c))))) = _
    rw [trim_blank]
    obtain ⟨t, ht⟩ := piece_head c (1 + (l.takeWhile (· == c)).length)
    rw [ht, List.cons_append, trim_letter c _ (letter_blank (hL c (by simp)))]
theorem join_head (f : Nat) (l : List UInt8) (hl : l.length ≤ f) (hL : ∀ c ∈ l, isL c = true) : (l = [] ∧ Lib.join (piecesF f l) [32] = []) ∨ ∃ c t, isL c = true ∧ l ≠ [] ∧ Lib.join (piecesF f l) [32] = c :: t := by
  cases l with
  | nil => exact .inl ⟨rfl, by cases f <;> rfl⟩
  | cons c l =>
    obtain ⟨f, rfl⟩ : ∃ g, f = g + 1 := ⟨f - 1, by rw [List.length_cons] at hl; omega⟩
    rw [pieces_ne, Lib.join_cons]
    obtain ⟨t, ht⟩ := piece_head c (1 + (l.takeWhile (· == c)).length)
    rw [ht]
    exact .inr ⟨c, _, hL c (by simp), by simp, rfl⟩
theorem head_not (f : Nat) (l : List UInt8) (hl : l.length ≤ f) (hL : ∀ c ∈ l, isL c = true) : hdC (Lib.join (piecesF f l) [32]) ≠ 94 := by
  rcases join_head f l hl hL with ⟨_, e⟩ | ⟨c, t, hc, _, e⟩
  · rw [e]; decide
  · rw [e]; exact letter_ne hc 94 (by omega)

theorem loop_text (S : Int → List UInt8 → Bool → Res (List UInt8)) (d : Int) : ∀ (f : Nat) (l : List UInt8) (ws : List (List UInt8)) (n F : Nat), l.length ≤ f → (∀ c ∈ l, isL c = true) → n + l.length ≤ 1000 → ws.flatten.length = n → (piecesF f l).length < F →
    loopP (factorP (baseP S 8 d)) F ws n (Lib.join (piecesF f l) [32]) false = some (some (red (ws.flatten ++ l), [], false)) := by
  intro f
  induction f with
  | zero =>
    intro l ws n F hl _ _ _ hF
    obtain rfl := List.eq_nil_of_length_eq_zero (Nat.le_zero.1 hl)
    obtain ⟨F, rfl⟩ : ∃ g, F = g + 1 := ⟨F - 1, by omega⟩
    show (if stopC (hdC []) = true then _ else _) = _
    rw [if_pos (by decide), List.append_nil]
    rfl
  | succ f ih =>
    intro l ws n F hl hL hn hw hF
    obtain ⟨F, rfl⟩ : ∃ g, F = g + 1 := ⟨F - 1, by omega⟩
    cases l with
    | nil =>
      show (if stopC (hdC []) = true then _ else _) = _
      rw [if_pos (by decide), List.append_nil]
      rfl
    | cons c l =>
      obtain ⟨m, hm⟩ : ∃ m, 1 + (l.takeWhile (· == c)).length = m := ⟨_, rfl⟩
      have htw := tw_len (· == c) l
      have hrep := tw_rep c l
      rw [List.length_cons] at hl hn
      rw [pieces_ne, List.length_cons] at hF
      have hc := hL c (by simp)
      have hL2 : ∀ b ∈ l.dropWhile (· == c), isL b = true := fun b hb => hL b (List.mem_cons_of_mem _ ((List.dropWhile_sublist _).subset hb))
      rw [pieces_ne, hm, Lib.join_cons]
      have htail := trim_tail f (l.dropWhile (· == c)) (by omega) hL2
      obtain ⟨r', h1, h2⟩ := factor_piece S d c hc m (by omega) (by omega) (Lib.joinTail [32] (piecesF f (l.dropWhile (· == c)))) (behind_tail _) (by rw [htail]; exact head_not f _ (by omega) hL2)
      obtain ⟨t, ht⟩ := piece_head c m
      show (if stopC (hdC (piece c m ++ _)) = true then _ else _) = _
      have hs : stopC (hdC (piece c m ++ Lib.joinTail [32] (piecesF f (l.dropWhile (· == c))))) = false := by
        rw [ht, List.cons_append]
        show stopC (c.toNat : Int) = false
        unfold stopC
        have e0 := letter_ne hc 0 (by omega)
        have e1 := letter_ne hc 41 (by omega)
        have e2 := letter_ne hc 93 (by omega)
        have e3 := letter_ne hc 44 (by omega)
        simp only [Bool.or_eq_false_iff, beq_eq_false_iff_ne]
        exact ⟨⟨⟨e0, e1⟩, e2⟩, e3⟩
      rw [hs, h1]
      simp only [Res.bind, Bool.false_eq_true, if_false]
      have ho : over (n + (List.replicate m c).length) false = false := by
        unfold over
        rw [List.length_replicate]
        simp
        omega
      rw [ho, h2, htail]
      simp only [Bool.false_eq_true, if_false]
      have hfl : (ws ++ [List.replicate m c]).flatten = ws.flatten ++ List.replicate m c := by simp
      have hcl : List.replicate m c ++ l.dropWhile (· == c) = c :: l := by
        rw [← hm, Nat.add_comm, List.replicate_succ, List.cons_append, ← hrep, List.takeWhile_append_dropWhile]
      rw [ih _ (ws ++ [List.replicate m c]) (n + (List.replicate m c).length) F (by omega) hL2 (by rw [List.length_replicate]; omega) (by rw [hfl, List.length_append, hw]) (by omega), hfl, List.append_assoc, hcl]

theorem text_len (l : List UInt8) (hl : l.length ≤ 1000) : (textL l).length ≤ 31000 := by
  unfold textL
  split
  · simp
  · have h1 := join_len (piecesF l.length l) (pieces_len _ l hl)
    have h2 := pieces_count l.length l
    omega
theorem join_ge : ∀ (f : Nat) (l : List UInt8), l.length ≤ f → (piecesF f l).length ≤ (Lib.join (piecesF f l) [32]).length
  | 0, l, _ => Nat.zero_le _
  | _ + 1, [], _ => Nat.zero_le _
  | f + 1, c :: l, h => by
    have key : ∀ (g : Nat) (l : List UInt8), (piecesF g l).length ≤ (Lib.joinTail [32] (piecesF g l)).length := by
      intro g l
      have : ∀ ps : List (List UInt8), ps.length ≤ (Lib.joinTail [32] ps).length := by
        intro ps
        induction ps with
        | nil => exact Nat.zero_le _
        | cons p ps ih =>
          show ps.length + 1 ≤ ((32 :: p) ++ Lib.joinTail [32] ps).length
          rw [List.length_append, List.length_cons]
          omega
      exact this _
    rw [pieces_ne, Lib.join_cons, List.length_append, List.length_cons]
    obtain ⟨t, ht⟩ := piece_head c (1 + (l.takeWhile (· == c)).length)
    rw [ht, List.length_cons]
    have := key f (l.dropWhile (· == c))
    omega

theorem parse_text_at (l : List UInt8) (hl : l.length ≤ 1000) (hL : ∀ c ∈ l, isL c = true) (F : Nat) (hF : (textL l).length + 1 ≤ F) : parseN (F + 1) 8 (textL l) = some (red l, 0) := by
  unfold parseN
  rw [if_neg (by omega)]
  have ho : decide (100000 < (textL l).length) = false := decide_eq_false (by have := text_len l hl; omega)
  rw [ho]
  cases l with
  | nil =>
    obtain ⟨F, rfl⟩ : ∃ g, F = g + 2 := ⟨F - 2, by have : (textL []).length = 1 := rfl; omega⟩
    rfl
  | cons c l =>
    have hge := join_ge (l.length + 1) (c :: l) (by simp)
    rw [List.length_cons] at hl
    obtain ⟨m, hm⟩ : ∃ m, 1 + (l.takeWhile (· == c)).length = m := ⟨_, rfl⟩
    have htw := tw_len (· == c) l
    have hrep := tw_rep c l
    have hc := hL c (by simp)
    have hL2 : ∀ b ∈ l.dropWhile (· == c), isL b = true := fun b hb => hL b (List.mem_cons_of_mem _ ((List.dropWhile_sublist _).subset hb))
    have htx : textL (c :: l) = piece c m ++ Lib.joinTail [32] (piecesF l.length (l.dropWhile (· == c))) := by
      unfold textL
      rw [if_neg (by simp), List.length_cons, pieces_ne, hm, Lib.join_cons]
    have hcount : (piecesF l.length (l.dropWhile (· == c))).length < F := by
      have e : textL (c :: l) = Lib.join (piecesF (l.length + 1) (c :: l)) [32] := by unfold textL; rw [if_neg (by simp), List.length_cons]
      rw [e] at hF
      rw [pieces_ne, List.length_cons] at hge
      rw [pieces_ne] at hF
      omega
    rw [htx]
    have htail := trim_tail l.length (l.dropWhile (· == c)) (by omega) hL2
    obtain ⟨r', h1, h2⟩ := factor_piece (sumN 8 F) 0 c hc m (by omega) (by omega) (Lib.joinTail [32] (piecesF l.length (l.dropWhile (· == c)))) (behind_tail _) (by rw [htail]; exact head_not l.length _ (by omega) hL2)
    have hcl : List.replicate m c ++ l.dropWhile (· == c) = c :: l := by
      rw [← hm, Nat.add_comm, List.replicate_succ, List.cons_append, ← hrep, List.takeWhile_append_dropWhile]
    have hsum : sumN 8 (F + 1) 0 (piece c m ++ Lib.joinTail [32] (piecesF l.length (l.dropWhile (· == c)))) false = some (some (red (c :: l), [], false)) := by
      show sumP (factorP (baseP (sumN 8 F) 8 0)) F _ false = _
      unfold sumP
      rw [h1]
      simp only [Res.bind]
      rw [h2, htail, loop_text (sumN 8 F) 0 l.length (l.dropWhile (· == c)) [List.replicate m c] (List.replicate m c).length F (by omega) hL2 (by rw [List.length_replicate]; omega) (by simp) hcount]
      simp only [List.flatten_cons, List.flatten_nil, List.append_nil]
      rw [hcl]
    rw [hsum]
    rfl
theorem parse_text {s : ByteArray} (h : Sw s) : word_Parse.f 8 (B (textL (L s))) = some (B (red (L s)), 0) := by
  have h1 := h.1
  rw [size_L] at h1
  have h2 := text_len (L s) h1
  unfold word_Parse.f
  rw [if_pos (by rw [size_B]; omega), size_B, L_B, parse_text_at (L s) h1 h.2 _ (Nat.le_refl _)]
  rfl

end Go.Proofs.YthiehmogphknlaaGreatDoor.Laws
