/- SenseUnlike: what each of the five instructions does in the two rings, from one state; plain laws. -/
import Derived.Test.YtlgnhjalhfednaaSenN
namespace Go.Proofs.Ytlgnhjalhfednaa
open Go.RowKit
set_option linter.unusedSimpArgs false
set_option linter.unusedVariables false
set_option maxRecDepth 100000

def z0f : Nat → Int := fun _ => 0
def crU (y : Nat) : Nat → Int := updN (updN z0f y 9) 2 7
def sU (y : Nat) : Array Value := stA z0f 40 2 (crU y) false
def uU (y : Nat) : Array Value := stA z0f 40 3 (crU y) false
def efU (f : Bool) : Array Value := #[.int .i64 0, .bool f, .bool false, .int .i64 0, .int .u32 0]

def InU (f : Nat → Int) : Prop := ∀ k, 0 ≤ f k ∧ f k < 4294967296
theorem z0f_in : InU z0f := fun k => ⟨Int.le_refl 0, show (0 : Int) < 4294967296 by decide⟩
theorem InU.upd {f : Nat → Int} (h : InU f) (j : Nat) {v : Int} (hv : 0 ≤ v ∧ v < 4294967296) : InU (updN f j v) := fun k => by
  simp only [updN]; split
  · exact hv
  · exact h k
theorem crU_in (y : Nat) : InU (crU y) := (z0f_in.upd y (by decide)).upd 2 (by decide)
theorem crU_2 (y : Nat) : crU y 2 = 7 := by simp [crU, updN]
theorem crU_3 (y : Nat) : 0 ≤ crU y 3 ∧ crU y 3 < 256 := by
  simp only [crU, updN]
  split
  · omega
  · split <;> simp [z0f]
theorem crU_y (y : Nat) : crU y y ≠ 0 := by
  simp only [crU, updN]
  split
  · decide
  · simp

def stKu : List CK := [.i .u32, .i .u32, .i .u32, .i .u32, .i .u32, .i .u32, .i .u32, .i .u32, .i .u32, .i .u32, .i .u32, .i .u32, .i .u32, .i .u32, .i .u32, .i .u32, .i .u32, .i .u32, .b]
theorem st_cmp {r r' : Nat → Int} {pc ps pc' ps' : Int} {cr cr' : Nat → Int} {h h' : Bool} (hr : InU r) (hc : InU cr) (hp : 0 ≤ pc ∧ pc < 4294967296) (hs : 0 ≤ ps ∧ ps < 4294967296) (hr' : InU r') (hc' : InU cr') (hp' : 0 ≤ pc' ∧ pc' < 4294967296) (hs' : 0 ≤ ps' ∧ ps' < 4294967296) :
    ∃ b : Bool, (∀ w, (binOp .eql 25 (.agg (stA r pc ps cr h)) (.agg (stA r' pc' ps' cr' h'))).run Try.prog w = .ok (.bool b) w) ∧ (b = true → stA r pc ps cr h = stA r' pc' ps' cr' h') := by
  have hok : ∀ {r : Nat → Int} {pc ps : Int} {cr : Nat → Int} {h : Bool}, InU r → InU cr → (0 ≤ pc ∧ pc < 4294967296) → (0 ≤ ps ∧ ps < 4294967296) → okAll stKu (stA r pc ps cr h).toList := fun {r pc ps cr h} hr hc hp hs =>
    ⟨ck_u32 (hr 0), ck_u32 (hr 1), ck_u32 (hr 2), ck_u32 (hr 3), ck_u32 (hr 4), ck_u32 (hr 5), ck_u32 (hr 6), ck_u32 (hr 7), ck_u32 hp, ck_u32 hs, ck_u32 (hc 0), ck_u32 (hc 1), ck_u32 (hc 2), ck_u32 (hc 3), ck_u32 (hc 4), ck_u32 (hc 5), ck_u32 (hc 6), ck_u32 (hc 7), ⟨h, rfl⟩, trivial⟩
  obtain ⟨b, h1, _, h2⟩ := run_eql_flat (P := Try.prog) (n := 4) (t := 25) (ks := stKu) (by decide) (by kernel_rfl) (by kernel_rfl) (by kernel_rfl) (by kernel_rfl) (hok (h := h) hr hc hp hs) (hok (h := h') hr' hc' hp' hs')
  exact ⟨b, h1, fun hb => by simpa using h2.1 hb⟩

/-- What the walk asks of one instruction, done in the two rings. -/
structure UlK (y : Nat) (op a b : Int) (T V V2 : Array Value) (pv : Int) (f g β : Bool) : Prop where
  d1 : ∀ w, Calls Try.prog 9 #[.agg (sU y), .agg #[.int .u8 op, .int .u8 a, .int .u8 b, .int .i32 0], .int .u32 0] w fun e w' => e = .returned (.tuple #[.agg T, .agg (efU f)]) ∧ Below w.heap.size w w'
  d2 : ∀ w, Calls Try.prog 9 #[.agg (uU y), .agg #[.int .u8 op, .int .u8 a, .int .u8 b, .int .i32 0], .int .u32 0] w fun e w' => e = .returned (.tuple #[.agg V, .agg (efU g)]) ∧ Below w.heap.size w w'
  zT : T.size = 19
  oT : T.all (·.oneCell') = true
  zV : V.size = 19
  oV : V.all (·.oneCell') = true
  z2 : V2.size = 19
  c9 : V[9]? = some (.int .u32 pv)
  set : V.setIfInBounds 9 (.int .u32 (bits .andNot .u32 pv 1)) = V2
  eq : ∀ w, (binOp .eql 25 (.agg T) (.agg V2)).run Try.prog w = .ok (.bool β) w
  dif : β = false ∨ (f = true ∧ g = false)

theorem ul_mk {y : Nat} {op a b : Int} {r r' : Nat → Int} {pc ps pc' ps' : Int} {f g : Bool} (ho : 0 ≤ op ∧ op < 256) (ha : 0 ≤ a ∧ a < 256) (hb : 0 ≤ b ∧ b < 256)
    (e1 : doV ⟨z0f, 40, 2, crU y, false, op, a, b, 0, 0, 0, false, false, 0, 0, false⟩ = .tuple #[.agg (stA r pc ps (crU y) false), .agg (efU f)])
    (e2 : doV ⟨z0f, 40, 3, crU y, false, op, a, b, 0, 0, 0, false, false, 0, 0, true⟩ = .tuple #[.agg (stA r' pc' ps' (crU y) false), .agg (efU g)])
    (hr : InU r) (hp : 0 ≤ pc ∧ pc < 4294967296) (hs : 0 ≤ ps ∧ ps < 4294967296) (hr' : InU r') (hp' : 0 ≤ pc' ∧ pc' < 4294967296) (hs' : 0 ≤ bits .andNot .u32 ps' 1 ∧ bits .andNot .u32 ps' 1 < 4294967296)
    (hd : stA r pc ps (crU y) false ≠ stA r' pc' (bits .andNot .u32 ps' 1) (crU y) false ∨ (f = true ∧ g = false)) :
    ∃ (T V V2 : Array Value) (pv : Int) (f g β : Bool), UlK y op a b T V V2 pv f g β := by
  obtain ⟨β, h1, h2⟩ := st_cmp (h := false) (h' := false) hr (crU_in y) hp hs hr' (crU_in y) hp' hs'
  refine ⟨stA r pc ps (crU y) false, stA r' pc' ps' (crU y) false, stA r' pc' (bits .andNot .u32 ps' 1) (crU y) false, ps', f, g, β, ?_, ?_, rfl, by simp [stA, Value.oneCell'], rfl, by simp [stA, Value.oneCell'], rfl, rfl, rfl, h1, ?_⟩
  · intro w
    have := do_c ⟨z0f, 40, 2, crU y, false, op, a, b, 0, 0, 0, false, false, 0, 0, false⟩ ⟨⟨rfl, rfl, rfl, rfl, rfl⟩, by simp only; decide +kernel, ho.1, ho.2, ha.1, ha.2, hb.1, hb.2, show (-2147483648 : Int) ≤ 0 by decide, show (0 : Int) < 2147483648 by decide, show (0 : Int) ≤ 40 by decide, show (40 : Int) < 4294967296 by decide, crU_in y⟩ w
    rw [e1] at this
    exact this
  · intro w
    have := do_c ⟨z0f, 40, 3, crU y, false, op, a, b, 0, 0, 0, false, false, 0, 0, true⟩ ⟨⟨rfl, rfl, rfl, rfl, rfl⟩, by simp only; decide +kernel, ho.1, ho.2, ha.1, ha.2, hb.1, hb.2, show (-2147483648 : Int) ≤ 0 by decide, show (0 : Int) < 2147483648 by decide, show (0 : Int) ≤ 40 by decide, show (40 : Int) < 4294967296 by decide, crU_in y⟩ w
    rw [e2] at this
    exact this
  · rcases hd with hd | hd
    · left
      cases β
      · rfl
      · exact absurd (h2 rfl) hd
    · exact .inr hd

theorem cell_ne {A B : Array Value} (k : Nat) {x y : Int} (ha : A[k]? = some (.int .u32 x)) (hb : B[k]? = some (.int .u32 y)) (h : x ≠ y) : A ≠ B := fun e => by
  rw [e, hb] at ha
  simp at ha
  exact h ha.symm

theorem an3 : bits .andNot .u32 3 1 = 2 := by decide +kernel
theorem w247 : bits .and .u32 0 247 = 0 := by decide +kernel
theorem w240 : bits .andNot .u32 (bits .or .u32 (bits .andNot .u32 3 240) (bits .and .u32 0 240)) 1 = 2 := by decide +kernel
theorem m41 : (0 : Int) ≤ (40 + 1) % 4294967296 ∧ ((40 : Int) + 1) % 4294967296 < 4294967296 := by omega
theorem m42 : (0 : Int) ≤ (40 + 2) % 4294967296 ∧ ((40 : Int) + 2) % 4294967296 < 4294967296 := by omega

/-- The five instructions. -/
def insU (x y : Int) : Nat → Int × Int × Int
  | 0 => (2, 0, 0) | 1 => (3, 0, 0) | 2 => (96, x, 0) | 3 => (97, x, 0) | _ => (98, x, y)

theorem ul_all (x y : Int) (hx : 0 ≤ x ∧ x < 8) (hy : 0 ≤ y ∧ y < 8) (k : Nat) : ∃ (T V V2 : Array Value) (pv : Int) (f g β : Bool), UlK y.toNat (insU x y k).1 (insU x y k).2.1 (insU x y k).2.2 T V V2 pv f g β := by
  have zz : (0 : Int) ≤ 0 ∧ (0 : Int) < 256 := by decide
  have xx : 0 ≤ x ∧ x < 256 := by omega
  have yy : 0 ≤ y ∧ y < 256 := by omega
  have nx : x.toNat < 8 := by omega
  match k with
  | 0 =>
    refine ul_mk (by show (0 : Int) ≤ 2 ∧ (2 : Int) < 256; decide) zz zz (iret_sv _ _ _ _ _) (iret_uv _ _ _ _ _) z0f_in (by omega) ?_ z0f_in m41 (by rw [an3]; decide) (.inl ?_)
    · have := crU_3 y.toNat
      obtain ⟨n, hn⟩ := Int.eq_ofNat_of_zero_le this.1
      rw [hn, u32_and _ _ (by omega) (by omega) (by omega) (by omega)]
      have l : n &&& 247 ≤ 247 := Nat.and_le_right
      simp only [Int.toNat_natCast, show (247 : Int).toNat = 247 from rfl]
      omega
    · exact cell_ne 8 (x := ((crU y.toNat 2 - 1) % 4294967296 + 1) % 4294967296) (y := (40 + 1) % 4294967296) rfl rfl (by rw [crU_2]; decide)
  | 1 => exact ul_mk (by show (0 : Int) ≤ 3 ∧ (3 : Int) < 256; decide) zz zz (flush_v _ _ _ _ _ false) (flush_v _ _ _ _ _ true) z0f_in m41 (by decide) z0f_in m41 (by rw [an3]; decide) (.inr ⟨rfl, rfl⟩)
  | 2 =>
    refine ul_mk (by show (0 : Int) ≤ 96 ∧ (96 : Int) < 256; decide) xx zz (rdps_v _ _ _ _ _ false x hx.2) (rdps_v _ _ _ _ _ true x hx.2) (z0f_in.upd _ (by decide)) m42 (by decide) (z0f_in.upd _ (by decide)) m42 (by rw [an3]; decide) (.inl ?_)
    exact cell_ne x.toNat (x := 2) (y := 3) ((stA_R _ _ _ _ _ nx).trans (by simp [updN])) ((stA_R _ _ _ _ _ nx).trans (by simp [updN])) (by decide)
  | 3 =>
    refine ul_mk (by show (0 : Int) ≤ 97 ∧ (97 : Int) < 256; decide) xx zz (wrps_v _ _ _ _ _ false x hx.2) (wrps_v _ _ _ _ _ true x hx.2) z0f_in m42 ?_ z0f_in m42 ?_ (.inl ?_)
    · rw [if_neg (by decide), show z0f x.toNat = 0 from rfl, w247]; decide
    · rw [if_pos rfl, show z0f x.toNat = 0 from rfl, w240]; decide
    · refine cell_ne 9 (x := 0) (y := 2) ?_ ?_ (by decide)
      · rw [if_neg (by decide), show z0f x.toNat = 0 from rfl, w247]; rfl
      · rw [if_pos rfl, show z0f x.toNat = 0 from rfl, w240]; rfl
  | j + 4 =>
    refine ul_mk (by show (0 : Int) ≤ 98 ∧ (98 : Int) < 256; decide) xx yy (rdcr_v _ _ _ _ _ x y hx.2 hy.2) (rdcr_u _ _ _ _ _ x y hx.2 hy.2) (z0f_in.upd _ (crU_in _ _)) m42 (by decide) (z0f_in.upd _ (by decide)) m42 (by rw [an3]; decide) (.inl ?_)
    exact cell_ne x.toNat (x := crU y.toNat y.toNat) (y := 0) ((stA_R _ _ _ _ _ nx).trans (by simp [updN])) ((stA_R _ _ _ _ _ nx).trans (by simp [updN])) (crU_y _)
end Go.Proofs.Ytlgnhjalhfednaa
