/- What is shown is read as it was; what is read is shown by just its text: the plain laws. text.Read's contract, whatever the fence. -/
import Derived.Test.YtgfljokamgbcaaaGreatDoorRdF
import Derived.Test.YtgfljokamgbcaaaGreatDoorTxtG
namespace Go.Proofs.YtgfljokamgbcaaaGreatDoor
set_option linter.unusedSimpArgs false
set_option linter.unusedVariables false
set_option maxRecDepth 100000

/-- Words put together, a blank between. -/
def joinF : List (List UInt8) → List UInt8
  | [] => []
  | w :: ws => w ++ ws.flatMap (fun x => 32 :: x)
theorem join_cons (c : UInt8) (w : List UInt8) (ws : List (List UInt8)) : joinF ((c :: w) :: ws) = c :: joinF (w :: ws) := rfl
theorem split_word : ∀ (w : List UInt8) (r : List UInt8), (∀ c ∈ w, c ≠ 32) → splitF (w ++ 32 :: r) = w :: splitF r
  | [], r, _ => by
    rw [List.nil_append, splitF, if_pos rfl]
  | c :: w, r, h => by
    rw [List.cons_append, splitF, if_neg (h c List.mem_cons_self), split_word w r (fun d hd => h d (List.mem_cons_of_mem _ hd))]
theorem split_join : ∀ (ws : List (List UInt8)) (w : List UInt8), (∀ x ∈ w :: ws, ∀ c ∈ x, c ≠ 32) → splitF (joinF (w :: ws)) = w :: ws
  | [], w, h => by
    unfold joinF
    simp only [List.flatMap_nil, List.append_nil]
    exact split_none (h w List.mem_cons_self)
  | x :: ws, w, h => by
    have e : joinF (w :: x :: ws) = w ++ 32 :: joinF (x :: ws) := by simp [joinF]
    rw [e, split_word w _ (h w List.mem_cons_self), split_join ws x (fun y hy => h y (List.mem_cons_of_mem _ hy))]

/-- An instruction's words. -/
def wordsOf (n : Nm) (a b imm : Int) : List (List UInt8) :=
  n.word :: ((if n.a = 0 then [] else [[UInt8.ofNat n.a.toNat, UInt8.ofNat (48 + a).toNat]]) ++ (if n.b = 0 then [] else [[UInt8.ofNat n.b.toNat, UInt8.ofNat (48 + b).toNat]]) ++ (if n.imm = true then [Lib.itoa imm] else []))
theorem u8_of {k : Nat} (h : k < 256) : (UInt8.ofNat k).toNat = k := by simp [UInt8.toNat_ofNat']; omega
theorem u8_eq {x : UInt8} {k : Nat} (h : x.toNat = k) : x = UInt8.ofNat k := by rw [← h]; simp
theorem reg_show {c r : Int} (hc : 0 ≤ c ∧ c < 256) (h0 : 0 ≤ r) (h1 : r < 8) : regF [UInt8.ofNat c.toNat, UInt8.ofNat (48 + r).toNat] c = some r := by
  unfold regF
  have e1 : (UInt8.ofNat c.toNat).toNat = c.toNat := u8_of (by omega)
  have e2 : (UInt8.ofNat (48 + r).toNat).toNat = (48 + r).toNat := u8_of (by omega)
  simp only [e1, e2]
  rw [if_pos (by omega)]
  congr 1; omega
theorem reg_read {l : List UInt8} {c r : Int} (h : regF l c = some r) : l = [UInt8.ofNat c.toNat, UInt8.ofNat (48 + r).toNat] ∧ 0 ≤ r ∧ r < 8 := by
  have hb := regF_bd h
  unfold regF at h
  split at h
  · rename_i x y
    split at h
    · rename_i hc
      have := Option.some.inj h
      have hx := u8_lt x
      have hy := u8_lt y
      exact ⟨by rw [u8_eq (x := x) (k := c.toNat) (by omega), u8_eq (x := y) (k := (48 + r).toNat) (by omega)], hb⟩
    · cases h
  · cases h

/-- Digits' value. -/
def dvI (l : List UInt8) (n : Int) : Int := l.foldl (fun n c => 10 * n + (c.toNat : Int) - 48) n
abbrev isDig (l : List UInt8) : Prop := ∀ c ∈ l, 48 ≤ c.toNat ∧ c.toNat ≤ 57
theorem dvI_ge : ∀ (l : List UInt8) (n : Int), 0 ≤ n → isDig l → n ≤ dvI l n
  | [], n, _, _ => Int.le_refl _
  | c :: r, n, h0, h => by
    have hc := h c List.mem_cons_self
    have := dvI_ge r (10 * n + (c.toNat : Int) - 48) (by omega) (fun d hd => h d (List.mem_cons_of_mem _ hd))
    unfold dvI at *
    simp only [List.foldl_cons]
    omega
theorem digF_of : ∀ (l : List UInt8) (n : Int), 0 ≤ n → isDig l → dvI l n ≤ 2147483648 → digF l n = some (dvI l n)
  | [], n, _, _, _ => rfl
  | c :: r, n, h0, h, hb => by
    have hc := h c List.mem_cons_self
    have hr : isDig r := fun d hd => h d (List.mem_cons_of_mem _ hd)
    have hg := dvI_ge r (10 * n + (c.toNat : Int) - 48) (by omega) hr
    have e : dvI (c :: r) n = dvI r (10 * n + (c.toNat : Int) - 48) := rfl
    rw [e] at hb ⊢
    unfold digF
    rw [if_pos]
    · exact digF_of r _ (by omega) hr hb
    · simp [digOk]; omega
theorem digF_is : ∀ (l : List UInt8) (n m : Int), digF l n = some m → isDig l ∧ m = dvI l n
  | [], n, m, h => by
    simp [digF] at h
    exact ⟨fun c hc => (by cases hc), h.symm⟩
  | c :: r, n, m, h => by
    unfold digF at h
    split at h
    · rename_i hd
      simp [digOk] at hd
      obtain ⟨h1, h2⟩ := digF_is r _ m h
      refine ⟨fun d hd' => ?_, h2⟩
      rcases List.mem_cons.1 hd' with rfl | h3
      · omega
      · exact h1 d h3
    · cases h
theorem dvI_snoc (l : List UInt8) (c : UInt8) (n : Int) : dvI (l ++ [c]) n = 10 * dvI l n + (c.toNat : Int) - 48 := by simp [dvI]
theorem dvI_dec (u : Nat) : dvI (Lib.decDigits u) 0 = (u : Int) := by
  induction u using Nat.strongRecOn with
  | _ u ih =>
    by_cases c : u < 10
    · rw [Lib.decDigits.eq_def, dif_pos c]
      have : (UInt8.ofNat (48 + u)).toNat = 48 + u := u8_of (by omega)
      simp only [dvI, List.foldl_cons, List.foldl_nil, this]
      omega
    · rw [Lib.decDigits.eq_def, dif_neg c, dvI_snoc, ih (u / 10) (by omega)]
      have : (UInt8.ofNat (48 + u % 10)).toNat = 48 + u % 10 := u8_of (by omega)
      rw [this]; omega
theorem dec_isDig (u : Nat) : isDig (Lib.decDigits u) := (dec_digits u).1
theorem dec_head : ∀ u, 1 ≤ u → ∃ c r, Lib.decDigits u = c :: r ∧ 49 ≤ c.toNat := by
  intro u
  induction u using Nat.strongRecOn with
  | _ u ih =>
    intro h
    by_cases c : u < 10
    · rw [Lib.decDigits.eq_def, dif_pos c]
      exact ⟨_, _, rfl, by rw [u8_of (by omega)]; omega⟩
    · obtain ⟨d, r, e, hd⟩ := ih (u / 10) (by omega) (by omega)
      rw [Lib.decDigits.eq_def, dif_neg c, e]
      exact ⟨d, _, rfl, hd⟩
theorem dec_of : ∀ (k : Nat) (l : List UInt8), l.length = k + 1 → isDig l → (l.head? = some 48 → k = 0) → l = Lib.decDigits (dvI l 0).toNat
  | 0, l, hk, hd, _ => by
    match l, hk with
    | [c], _ =>
      have hc := hd c List.mem_cons_self
      have e : (dvI [c] 0).toNat = c.toNat - 48 := by simp only [dvI, List.foldl_cons, List.foldl_nil]; omega
      rw [e, Lib.decDigits.eq_def, dif_pos (by omega)]
      congr 1
      exact u8_eq (by omega)
  | k + 1, l, hk, hd, hh => by
    obtain ⟨l', c, rfl⟩ : ∃ l' c, l = l' ++ [c] := ⟨l.dropLast, l.getLast (by intro e; subst e; simp at hk), (List.dropLast_concat_getLast _).symm⟩
    have hk' : l'.length = k + 1 := by simpa using hk
    have hd' : isDig l' := fun d h => hd d (by simp [h])
    have hc := hd c (by simp)
    have hh' : l'.head? = some 48 → False := fun h => by
      have : (l' ++ [c]).head? = some 48 := by
        cases l'
        · simp at hk'
        · simpa using h
      have := hh this
      omega
    have ih := dec_of k l' hk' hd' (fun h => (hh' h).elim)
    have hpos : 1 ≤ (dvI l' 0).toNat := by
      rcases Nat.eq_zero_or_pos (dvI l' 0).toNat with h | h
      · exfalso
        rw [h, Lib.decDigits.eq_def, dif_pos (by decide)] at ih
        exact hh' (by rw [ih]; rfl)
      · exact h
    have e : (dvI (l' ++ [c]) 0).toNat = 10 * (dvI l' 0).toNat + (c.toNat - 48) := by rw [dvI_snoc]; omega
    rw [e, Lib.decDigits.eq_def, dif_neg (by omega)]
    have e1 : (10 * (dvI l' 0).toNat + (c.toNat - 48)) / 10 = (dvI l' 0).toNat := by omega
    have e2 : (10 * (dvI l' 0).toNat + (c.toNat - 48)) % 10 = c.toNat - 48 := by omega
    rw [e1, e2, ← ih]
    congr 2
    exact u8_eq (by omega)

theorem num_neg (u : Nat) (h1 : 1 ≤ u) (h2 : u ≤ 2147483648) : numF (45 :: Lib.decDigits u) = some (-(u : Int)) := by
  obtain ⟨d, r, ed, hd⟩ := dec_head u h1
  have e : numF (45 :: Lib.decDigits u) = numB true (Lib.decDigits u) := by
    generalize Lib.decDigits u = l
    rfl
  have hdg := digF_of _ 0 (Int.le_refl _) (dec_isDig u) (by rw [dvI_dec]; omega)
  rw [dvI_dec] at hdg
  rw [e]
  unfold numB
  rw [hdg, if_neg]
  · rfl
  · rw [ed]
    rintro (h | ⟨h, -⟩)
    · cases h
    · have h := Option.some.inj h
      subst h
      exact absurd hd (by decide)
theorem num_pos (u : Nat) (h2 : u < 2147483648) : numF (Lib.decDigits u) = some (u : Int) := by
  have hne := (dec_digits u).2
  have hdg' := dec_isDig u
  have h45 : (Lib.decDigits u).head? ≠ some 45 := fun h => by
    have := hdg' 45 (List.mem_of_mem_head? h)
    exact absurd this.1 (by decide)
  have hdg := digF_of _ 0 (Int.le_refl _) hdg' (by rw [dvI_dec]; omega)
  rw [dvI_dec] at hdg
  have hlt : (u : Int) < 2147483648 := by omega
  unfold numF
  rw [if_neg h45]
  unfold numB
  rw [hdg, if_neg]
  · rw [Option.bind_some, if_neg (show ¬ (false = true) by decide), if_pos hlt]
  · rintro (h | ⟨h, h2 | h2⟩)
    · exact hne h
    · rcases Nat.eq_zero_or_pos u with hu | hu
      · subst hu
        rw [Lib.decDigits.eq_def, dif_pos (by decide)] at h2
        exact absurd h2 (by simp)
      · obtain ⟨d, r, ed, hd⟩ := dec_head u hu
        rw [ed] at h
        have h := Option.some.inj h
        subst h
        exact absurd hd (by decide)
    · cases h2
theorem num_show {n : Int} (h0 : -2147483648 ≤ n) (h1 : n < 2147483648) : numF (Lib.itoa n) = some n := by
  unfold Lib.itoa
  by_cases c : n < 0
  · rw [if_pos c]
    refine (num_neg n.natAbs (by omega) (by omega)).trans ?_
    congr 1; omega
  · rw [if_neg c]
    refine (num_pos n.toNat (by omega)).trans ?_
    congr 1; omega
theorem num_read {l : List UInt8} {n : Int} (h : numF l = some n) : l = Lib.itoa n := by
  have key : ∀ B l, numB B l = some n → l ≠ [] ∧ isDig l ∧ (l.head? = some 48 → l.length - 1 = 0 ∧ B = false) ∧ n = (if B = true then -(dvI l 0) else dvI l 0) := by
    intro B l h
    unfold numB at h
    split at h
    · cases h
    · rename_i hc
      cases hd : digF l 0 with
      | none => rw [hd] at h; cases h
      | some m =>
        obtain ⟨h1, h2⟩ := digF_is l 0 m hd
        rw [hd] at h
        simp only [Option.bind] at h
        refine ⟨fun e => hc (.inl e), h1, fun e => ?_, ?_⟩
        · constructor
          · rcases Nat.lt_or_ge 1 l.length with h3 | h3
            · exact absurd (.inr ⟨e, .inl h3⟩) hc
            · omega
          · cases B
            · rfl
            · exact absurd (.inr ⟨e, .inr rfl⟩) hc
        · split at h
          · rename_i hB
            rw [if_pos hB, ← h2]; exact (Option.some.inj h).symm
          · rename_i hB
            rw [if_neg hB, ← h2]
            split at h
            · exact (Option.some.inj h).symm
            · cases h
  have len : ∀ l : List UInt8, l ≠ [] → l.length = (l.length - 1) + 1 := fun l hl => by
    have := List.length_pos_iff.2 hl
    omega
  unfold numF at h
  split at h
  · rename_i h45
    obtain ⟨r, rfl⟩ : ∃ r, l = 45 :: r := by
      cases l
      · simp at h45
      · rename_i x r
        simp at h45
        exact ⟨r, by rw [h45]⟩
    obtain ⟨h1, h2, h3, h4⟩ := key true r h
    simp only [if_true] at h4
    have e := dec_of _ r (len r h1) h2 (fun h => absurd (h3 h).2 (by decide))
    have hge := dvI_ge r 0 (Int.le_refl _) h2
    have hpos : 1 ≤ (dvI r 0).toNat := by
      rcases Nat.eq_zero_or_pos (dvI r 0).toNat with h | h
      · exfalso
        rw [h, Lib.decDigits.eq_def, dif_pos (by decide)] at e
        exact absurd (h3 (by rw [e]; rfl)).2 (by decide)
      · exact h
    unfold Lib.itoa
    rw [if_pos (by omega)]
    show 45 :: r = 45 :: Lib.decDigits n.natAbs
    rw [show n.natAbs = (dvI r 0).toNat by omega, ← e]
  · obtain ⟨h1, h2, h3, h4⟩ := key false l h
    simp only [Bool.false_eq_true, if_false] at h4
    have e := dec_of _ l (len l h1) h2 (fun h => (h3 h).1)
    have hge := dvI_ge l 0 (Int.le_refl _) h2
    unfold Lib.itoa
    rw [if_neg (by omega), show n.toNat = (dvI l 0).toNat by omega, ← e]

def Nm.fit3 (n : Nm) : Bool := nmTab.all (fun m => decide (m.op = n.op → m = n)) && (n.imm || (decide ((Isa.fm n.op true).n ≠ 0) && Isa.fitsB (Isa.fm n.op true) 0))
theorem nm_fit3 : nmTab.all Nm.fit3 = true := by decide +kernel
theorem nm_ops {n : Nm} (h : n ∈ nmTab) : (∀ m ∈ nmTab, m.op = n.op → m = n) ∧ (n.imm = true ∨ ((Isa.fm n.op true).n ≠ 0 ∧ Isa.fitsB (Isa.fm n.op true) 0 = true)) := by
  have := List.all_eq_true.1 nm_fit3 n h
  simp only [Nm.fit3, Bool.and_eq_true, Bool.or_eq_true, decide_eq_true_eq, List.all_eq_true] at this
  exact ⟨fun m hm => by simpa using this.1 m hm, this.2⟩
theorem find_key {n : Nm} (h : n ∈ nmTab) (p : Nm → Bool) (hp : p n = true) (hu : ∀ m ∈ nmTab, p m = true → m = n) : nmTab.find? p = some n := by
  cases e : nmTab.find? p with
  | none => exact absurd hp (by simpa using List.find?_eq_none.1 e n h)
  | some m =>
    have h1 := List.mem_of_find?_eq_some e
    have h2 := List.find?_some e
    rw [hu m h1 h2]
theorem of_read {n : Nm} (h : n ∈ nmTab) {ws : List (List UInt8)} (hw : ws.headD [] = n.word) {a b imm : Int} (ho : ofF n ws = .ok (a, b, imm)) : ws = wordsOf n a b imm ∧ Isa.mayB (Isa.fm n.op true) a b imm = true := by
  obtain ⟨k, hk⟩ := List.getElem?_of_mem h
  obtain ⟨_, _, pa, pb, _⟩ := nm_is hk
  have hab : n.a = 0 → n.b = 0 := by
    have := List.all_eq_true.1 nm_ab n h
    exact of_decide_eq_true this
  have hnw := nm_words h
  have hno := nm_ops h
  have wi : n.want = 1 + (n.a != 0).toNat + (n.b != 0).toNat + n.imm.toNat := rfl
  unfold ofF at ho
  split at ho
  case isFalse => cases ho
  rename_i hlen
  have may0 : n.imm = false → 0 ≤ a → a < 8 → 0 ≤ b → b < 8 → (n.a = 0 → a = 0) → (n.b = 0 → b = 0) → Isa.mayB (Isa.fm n.op true) a b 0 = true := fun hi a0 a1 b0 b1 za zb => by
    obtain ⟨hf1, hf2⟩ : (Isa.fm n.op true).n ≠ 0 ∧ Isa.fitsB (Isa.fm n.op true) 0 = true := by
      rcases hno.2 with h | h
      · rw [hi] at h; cases h
      · exact h
    refine Eq.trans (Eq.symm (Isa.mayB_of hf1 ?_ ?_)) hf2
    · rw [hnw.1]; split
      · rename_i h'; have := za h'; omega
      · omega
    · rw [hnw.2.1]; split
      · rename_i h'; have := zb h'; omega
      · omega
  cases hA : oA n ws with
  | none => rw [hA] at ho; cases ho
  | some va =>
    cases hB : oB n ws with
    | none => rw [hA, hB] at ho; cases ho
    | some vb =>
      rw [hA, hB] at ho
      simp only at ho
      unfold oA at hA
      unfold oB at hB
      have hvA : 0 ≤ va ∧ va < 8 ∧ (n.a = 0 → va = 0) ∧ (n.a ≠ 0 → ws.getD 1 [] = [UInt8.ofNat n.a.toNat, UInt8.ofNat (48 + va).toNat]) := by
        by_cases c : n.a = 0
        · rw [if_pos c] at hA
          have := Option.some.inj hA
          exact ⟨by omega, by omega, fun _ => by omega, fun h => absurd c h⟩
        · rw [if_neg c] at hA
          obtain ⟨e, h1, h2⟩ := reg_read hA
          exact ⟨h1, h2, fun h => absurd h c, fun _ => e⟩
      have hvB : 0 ≤ vb ∧ vb < 8 ∧ (n.b = 0 → vb = 0) ∧ (n.b ≠ 0 → ws.getD (if n.a = 0 then 1 else 2) [] = [UInt8.ofNat n.b.toNat, UInt8.ofNat (48 + vb).toNat]) := by
        by_cases c : n.b = 0
        · rw [if_pos c] at hB
          have := Option.some.inj hB
          exact ⟨by omega, by omega, fun _ => by omega, fun h => absurd c h⟩
        · rw [if_neg c] at hB
          obtain ⟨e, h1, h2⟩ := reg_read hB
          exact ⟨h1, h2, fun h => absurd h c, fun _ => e⟩
      have fin : ∀ i, (n.imm = true → ws.getD (pI n) [] = Lib.itoa i) → ws = wordsOf n va vb i := by
        intro i hi
        apply List.ext_getElem?
        intro j
        have gd : ∀ j, j < ws.length → ws[j]? = some (ws.getD j []) := fun j hj => getD_at hj
        have g0 : ws[0]? = some n.word := by rw [gd 0 (by rw [hlen, wi]; omega), ← hw]; cases ws <;> rfl
        unfold wordsOf
        unfold pI at hi
        by_cases ca : n.a = 0
        · have cb := hab ca
          have wl : ws.length = 1 + n.imm.toNat := by rw [hlen, wi, show (n.a != 0) = false by simp [ca], show (n.b != 0) = false by simp [cb]]; rfl
          simp only [if_pos ca, if_pos cb, List.append_nil, List.nil_append] at hi ⊢
          cases ci : n.imm
          · rw [ci] at wl
            rcases Nat.eq_zero_or_pos j with rfl | hj
            · rw [g0]; rfl
            · rw [List.getElem?_eq_none (by rw [wl]; first | (simp; omega) | (simp only [Bool.toNat_true, Bool.toNat_false]; omega)), List.getElem?_eq_none (by first | (simp; omega) | (simp only [List.length_cons, List.length_nil]; omega))]
          · rw [ci] at wl
            rcases (by omega : j = 0 ∨ j = 1 ∨ 2 ≤ j) with rfl | rfl | hj
            · rw [g0]; rfl
            · rw [gd 1 (by rw [wl]; decide), hi ci]; rfl
            · rw [List.getElem?_eq_none (by rw [wl]; first | (simp; omega) | (simp only [Bool.toNat_true, Bool.toNat_false]; omega)), List.getElem?_eq_none (by first | (simp; omega) | (simp only [List.length_cons, List.length_nil]; omega))]
        · have g1 : ws[1]? = some [UInt8.ofNat n.a.toNat, UInt8.ofNat (48 + va).toNat] := by
            rw [gd 1 (by rw [hlen, wi, show (n.a != 0) = true by simp [ca]]; simp only [Bool.toNat_true]; omega), hvA.2.2.2 ca]
          by_cases cb : n.b = 0
          · have wl : ws.length = 2 + n.imm.toNat := by rw [hlen, wi, show (n.a != 0) = true by simp [ca], show (n.b != 0) = false by simp [cb]]; rfl
            simp only [if_neg ca, if_pos cb, List.append_nil, List.nil_append] at hi ⊢
            cases ci : n.imm
            · rw [ci] at wl
              rcases (by omega : j = 0 ∨ j = 1 ∨ 2 ≤ j) with rfl | rfl | hj
              · rw [g0]; rfl
              · rw [g1]; rfl
              · rw [List.getElem?_eq_none (by rw [wl]; first | (simp; omega) | (simp only [Bool.toNat_true, Bool.toNat_false]; omega)), List.getElem?_eq_none (by first | (simp; omega) | (simp only [List.length_cons, List.length_nil]; omega))]
            · rw [ci] at wl
              rcases (by omega : j = 0 ∨ j = 1 ∨ j = 2 ∨ 3 ≤ j) with rfl | rfl | rfl | hj
              · rw [g0]; rfl
              · rw [g1]; rfl
              · rw [gd 2 (by rw [wl]; decide), hi ci]; rfl
              · rw [List.getElem?_eq_none (by rw [wl]; first | (simp; omega) | (simp only [Bool.toNat_true, Bool.toNat_false]; omega)), List.getElem?_eq_none (by first | (simp; omega) | (simp only [List.length_cons, List.length_nil]; omega))]
          · have wl : ws.length = 3 + n.imm.toNat := by rw [hlen, wi, show (n.a != 0) = true by simp [ca], show (n.b != 0) = true by simp [cb]]; rfl
            have hB2 := hvB.2.2.2 cb
            rw [if_neg ca] at hB2
            have g2 : ws[2]? = some [UInt8.ofNat n.b.toNat, UInt8.ofNat (48 + vb).toNat] := by
              rw [gd 2 (by rw [wl]; omega), hB2]
            simp only [if_neg ca, if_neg cb] at hi ⊢
            cases ci : n.imm
            · rw [ci] at wl
              rcases (by omega : j = 0 ∨ j = 1 ∨ j = 2 ∨ 3 ≤ j) with rfl | rfl | rfl | hj
              · rw [g0]; rfl
              · rw [g1]; rfl
              · rw [g2]; rfl
              · rw [List.getElem?_eq_none (by rw [wl]; first | (simp; omega) | (simp only [Bool.toNat_true, Bool.toNat_false]; omega)), List.getElem?_eq_none (by first | (simp; omega) | (simp only [List.length_cons, List.length_nil]; omega))]
            · rw [ci] at wl
              rcases (by omega : j = 0 ∨ j = 1 ∨ j = 2 ∨ j = 3 ∨ 4 ≤ j) with rfl | rfl | rfl | rfl | hj
              · rw [g0]; rfl
              · rw [g1]; rfl
              · rw [g2]; rfl
              · rw [gd 3 (by rw [wl]; decide), hi ci]; rfl
              · rw [List.getElem?_eq_none (by rw [wl]; first | (simp; omega) | (simp only [Bool.toNat_true, Bool.toNat_false]; omega)), List.getElem?_eq_none (by first | (simp; omega) | (simp only [List.length_cons, List.length_nil]; omega))]
      by_cases ci : n.imm = true
      · rw [if_pos ci] at ho
        cases hr : numF (ws.getD (pI n) []) with
        | none => rw [hr] at ho; cases ho
        | some i =>
          rw [hr] at ho
          simp only at ho
          split at ho
          · rename_i hm
            cases ho
            exact ⟨fin _ (fun _ => num_read hr), hm⟩
          · cases ho
      · rw [if_neg ci] at ho
        cases ho
        exact ⟨fin 0 (fun h => absurd h ci), may0 (by simpa using ci) hvA.1 hvA.2.1 hvB.1 hvB.2.1 hvA.2.2.1 hvB.2.2.1⟩

theorem read_bad {L : List UInt8} {e : Int} (h : readF L = .error e) : e = 40 ∨ e = 41 := by
  have of40 : ∀ n ws e, ofF n ws = .error e → e = 40 ∨ e = 41 := by
    intro n ws e h
    unfold ofF at h
    repeat' (split at h)
    all_goals (cases h <;> first | exact .inl rfl | exact .inr rfl)
  unfold readF at h
  split at h
  · cases h; exact .inl rfl
  · split at h
    · cases h; exact .inl rfl
    · rename_i n _
      cases ho : ofF n (splitF L) with
      | error e' => rw [ho] at h; cases h; exact of40 _ _ _ ho
      | ok t => rw [ho] at h; cases h
end Go.Proofs.YtgfljokamgbcaaaGreatDoor
namespace Go.Proofs.YtgfljokamgbcaaaGreatDoor
open Go.RowKit
set_option linter.unusedSimpArgs false
set_option linter.unusedVariables false
set_option maxRecDepth 100000

theorem of_bounds {n : Nm} {ws : List (List UInt8)} {a b i : Int} (h : ofF n ws = .ok (a, b, i)) : (0 ≤ a ∧ a < 8) ∧ (0 ≤ b ∧ b < 8) ∧ -2147483648 ≤ i ∧ i < 2147483648 := by
  unfold ofF at h
  split at h
  case isFalse => cases h
  cases hA : oA n ws with
  | none => rw [hA] at h; cases h
  | some va =>
    cases hB : oB n ws with
    | none => rw [hA, hB] at h; cases h
    | some vb =>
      rw [hA, hB] at h
      simp only at h
      have hvA : 0 ≤ va ∧ va < 8 := by
        unfold oA at hA
        split at hA
        · have := Option.some.inj hA; omega
        · exact regF_bd hA
      have hvB : 0 ≤ vb ∧ vb < 8 := by
        unfold oB at hB
        split at hB
        · have := Option.some.inj hB; omega
        · exact regF_bd hB
      split at h
      · cases hr : numF (ws.getD (pI n) []) with
        | none => rw [hr] at h; cases h
        | some j =>
          rw [hr] at h
          simp only at h
          split at h
          · cases h; exact ⟨hvA, hvB, numF_bd hr⟩
          · cases h
      · cases h; exact ⟨hvA, hvB, by omega, by omega⟩
theorem read_bounds {L : List UInt8} {op a b i : Int} (h : readF L = .ok (op, a, b, i)) : (0 ≤ op ∧ op < 256) ∧ (0 ≤ a ∧ a < 8) ∧ (0 ≤ b ∧ b < 8) ∧ -2147483648 ≤ i ∧ i < 2147483648 := by
  unfold readF at h
  split at h
  · cases h
  · split at h
    · cases h
    · rename_i n hf
      have hn := List.mem_of_find?_eq_some hf
      obtain ⟨k, hk⟩ := List.getElem?_of_mem hn
      obtain ⟨o0, o1, -⟩ := nm_is hk
      cases ho : ofF n (splitF L) with
      | error e => rw [ho] at h; cases h
      | ok t =>
        obtain ⟨a', b', i'⟩ := t
        rw [ho] at h
        cases h
        exact ⟨⟨o0, o1⟩, of_bounds ho⟩

theorem read_c (L : List UInt8) (hL : L.length ≤ 9223372036854775807) (w : World) : Calls Tryz.prog 55 #[.string ⟨L.toArray⟩] w fun e w' => e = .returned (readV (readF L)) ∧ Below w.heap.size w w' :=
  (callsIn_wide (n := 3)).1 (read_in 3 (by omega) L hL w)

end Go.Proofs.YtgfljokamgbcaaaGreatDoor
