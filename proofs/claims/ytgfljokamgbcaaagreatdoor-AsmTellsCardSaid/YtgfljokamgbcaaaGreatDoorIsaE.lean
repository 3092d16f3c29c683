/- The walk of isa.Encode: an instruction's bytes in a new slice, or a refusal. -/
import Derived.Test.YtgfljokamgbcaaaGreatDoorIsaM
import Derived.Maps.AppendAt
import Derived.RangeFuncBox
import Derived.Laws.OwnMore
namespace Go.Proofs.YtgfljokamgbcaaaGreatDoor.Isa
open Go.RowKit

theorem ownsRow_mono {w : World} {b b' : Nat} {e : TypeId} {size : Nat} {v : Value} {n : Nat} {xs : List Value} (h : w.ownsRow b e size v n xs) (hb : b' ≤ b) : w.ownsRow b' e size v n xs := by
  obtain ⟨h1, h2 | ⟨g, cap, cur, h3, h4, h5⟩⟩ := h
  · exact ⟨h1, .inl h2⟩
  · exact ⟨h1, .inr ⟨g, cap, cur, h3, Nat.le_trans hb h4, h5⟩⟩

/-- An instruction's bytes, of its form. -/
def encL (f : Fm) (op a b imm : Int) : List Int :=
  op :: ((if f.a = 1 then [a * 16 + b] else []) ++ (if f.k = 0 then [] else if f.k = 1 then [imm % 256] else if f.k = 2 then [imm % 256, imm / 256 % 256] else [imm % 256, imm / 256 % 256, imm / 65536 % 256, imm / 16777216 % 256]))

/-- What isa.Encode hands back. -/
def EncPost (may : Bool) (L : List Int) (w : World) (e : Ending) (w' : World) : Prop :=
  Below w.heap.size w w' ∧ (may = false → e = .returned (.tuple #[.slice none 0 0, .int .i64 2])) ∧
    (may = true → ∃ v, e = .returned (.tuple #[v, .int .i64 0]) ∧ w'.ownsRow w.heap.size 5 1 v L.length (L.map (Value.int .u8)))

theorem Tryz.infoB : (Tryz.prog.info? 5).map (fun i => (i.zero, i.size, i.bytes)) = some (some (.int .u8 0), 1, 1) := by kernel_rfl

theorem cell_one_new' (w : World) (x : Value) (t : TypeId) (k : Nat) (hk : k = w.heap.size) : ∀ j u, [x][j]? = some u → (w.alloc (.cells #[x] t)).cell? ((⟨k, 0, none⟩ : Addr).add j) = some u := by
  subst hk
  exact cell_one_new w x t
theorem ownsRow_lit1 (w : World) (x : Value) (e : TypeId) (base k : Nat) (hk : k = w.heap.size) (hb : base ≤ k) : (w.alloc (.cells #[x] e)).ownsRow base e 1 (.slice (some ⟨k, 0, none⟩) 1 1) 1 [x] := by
  subst hk
  exact World.ownsRow_lit w #[x] 1 hb (by decide) rfl

theorem bcell' {B : Nat} {W w1 : World} (hb : Below B W w1) (_h : B ≤ W.heap.size) : (∀ b o, b < B → w1.cell? ⟨b, o, none⟩ = W.cell? ⟨b, o, none⟩) :=
  fun b o h => hb.cell (p := ⟨b, o, none⟩) h

theorem own_next {W w w' : World} {base n size : Nat} {v : Value} {xs : List Value} {e : TypeId} {o : Obj} (hB : Below base W w) (hs : base ≤ w.heap.size) (hown : w.ownsRow base e size v n xs) (hg : (w.alloc o).grownBy w' v.ownBlock) :
    Below base W w' ∧ base ≤ w'.heap.size := by
  have h := (hB.alloc hs o).grown hg (by simp; omega) (fun k hk => (hown.lt k hk).1)
  exact ⟨h, by have := hg.size; simp at this; omega⟩

theorem or_regs {a b : Int} (h0 : 0 ≤ a) (h1 : a ≤ 7) (h2 : 0 ≤ b) (h3 : b ≤ 7) : bits .or .u8 (a * 16 % 256) b = a * 16 + b := by
  rw [u8_or _ _ (by omega) (by omega) (by omega) (by omega), nat_join 4 _ _ (by omega) (by omega)]
  omega

theorem own_first {w2 w' : World} {F a b : Obj} {row : Option Nat} (hg : (((w2.alloc F).alloc a).alloc b).grownBy w' row) (hr : row = some (w2.heap.size + 1)) : Below (w2.heap.size + 1) (w2.alloc F) w' ∧ w2.heap.size + 1 ≤ w'.heap.size := by
  have h := (((Below.refl (w2.heap.size + 1) (w2.alloc F)).alloc (by simp) a).alloc (by simp) b).grown hg (by simp) (fun k hk => by rw [hr] at hk; cases hk; exact Nat.le_refl _)
  exact ⟨h, by have := hg.size; simp at this; omega⟩

set_option maxHeartbeats 4000000 in
theorem encode_yes (op a b imm : Int) (host : Bool) (w : World) (h0 : 0 ≤ op) (h1 : op < 256) (h2 : 0 ≤ a) (h3 : a < 256) (h4 : 0 ≤ b) (h5 : b < 256) (h6 : -2147483648 ≤ imm) (h7 : imm < 2147483648)
    (hm : mayB (fm op host) a b imm = true) :
    Calls Tryz.prog 58 #[insV op a b imm, .bool host] w (EncPost true (encL (fm op host) op a b imm) w) := by
  have hc := fun w => may_c op a b imm host w h0 h1 h2 h3 h4 h5 h6 h7
  have hd := fun w => formOf_c op host w h0 h1
  have hF := fm_is op host
  generalize fm op host = f at hc hd hF hm ⊢
  simp only [hm] at hc
  have HC := Lib.hid hc
  have HD := Lib.hid hd
  have HM := Lib.hid hm
  clear hc hd hm
  unfold insV at HC ⊢
  obtain ⟨i0, hi, hz0, hz1, hz2⟩ := info_parts Tryz.infoB
  rcases hF with rfl | rfl | rfl | rfl | rfl | rfl | rfl | rfl | rfl | rfl
  next => exact absurd HM.out (by simp [mayB])
  all_goals
    go_enter Tryz.func58, Tryz.ntmps58
    go_wp2_with fail
    refine (HC.out _).mono ?_
    rintro e w1 ⟨rfl, hb⟩
    obtain ⟨hcl, hfz⟩ := bcell hb
    have hz : w.heap.size < w1.heap.size := by have := hb.size; simp at this; omega
    go_wp2_with fail
    refine (HD.out _).mono ?_
    rintro e w2 ⟨rfl, hb2⟩
    obtain ⟨hcl2, hfz2⟩ := bcell hb2
    have hz2' : w.heap.size < w2.heap.size := by have := hb2.size; omega
    unfold Fm.val
    have tokA : True := trivial
    go_wp2_with (first | (at_builtin; have _t := tokA; refine wpList_append_own _ rfl _ _ 23 rfl (w2.heap.size + 1) 5 i0 (.int .u8 0) 1 1 Tryz.underlying23 hi hz0 hz1 hz2 rfl (by decide) _ _ _ rfl ((ownsRow_lit1 _ (.int .u8 op) _ _ _ (by simp) (by simp)).alloc _) _ 1 1 [_] rfl rfl (cell_one_new' _ _ _ _ (by simp)) (by simp [Value.oneCell']) (by decide) (by decide) (by first | (simp; done) | (simp; omega)) ?_; clear tokA; intro v3 w3 hown hgrow _; obtain ⟨g, cap, rfl⟩ := ownsRow_succ hown; obtain ⟨hB, hs⟩ := own_first hgrow rfl; have hcl3 := bcell' hB (by simp); clear hgrow))
    refine wp_loop_rounds 6 ?_
    iterate 5
      try
        rw [rounds_succ]
        go_wp2_with (first | (at_builtin; have _t := tokA; refine wpList_append_own _ rfl _ _ 23 rfl (w2.heap.size + 1) 5 i0 (.int .u8 0) 1 1 Tryz.underlying23 hi hz0 hz1 hz2 rfl (by decide) _ _ _ rfl ((ownsRow_lit1 _ (.int .u8 op) _ _ _ (by simp) (by simp)).alloc _) _ 1 1 [_] rfl rfl (cell_one_new' _ _ _ _ (by simp)) (by simp [Value.oneCell']) (by decide) (by decide) (by first | (simp; done) | (simp; omega)) ?_; clear tokA; intro v3 w3 hown hgrow _; obtain ⟨g, cap, rfl⟩ := ownsRow_succ hown; obtain ⟨hB, hs⟩ := own_first hgrow rfl; have hcl3 := bcell' hB (by simp); clear hgrow) | (at_builtin; refine wpList_append_own _ rfl _ _ 23 rfl (w2.heap.size + 1) 5 i0 (.int .u8 0) 1 1 Tryz.underlying23 hi hz0 hz1 hz2 rfl (by decide) _ _ _ rfl (hown.alloc _) _ 1 1 [_] rfl rfl (cell_one_new' _ _ _ _ (by simp)) (by simp [Value.oneCell']) (by decide) (by decide) (by first | (simp; done) | (simp; omega)) ?_; intro v4 w4 hown4 hgrow4 _; obtain ⟨g4, cap4, rfl⟩ := ownsRow_succ hown4; obtain ⟨hB4, hs4⟩ := own_next hB hs hown hgrow4; clear hown hgrow4 hB hs hcl3; have hown := hown4; have hB := hB4; have hs := hs4; clear hown4 hB4 hs4; have hcl3 := bcell' hB (by simp)))
    go_ret2
    refine ⟨?_, (fun h => by cases h), (fun _ => ⟨_, rfl, ?_⟩)⟩
    · first
        | exact ((below_next (below_box hb) hb2).alloc (by omega) _).trans (hB.mono (by omega))
        | exact ((below_next (below_box hb) hb2).alloc (by omega) _).alloc (by simp; omega) _
    · have hle := HM.out
      simp [mayB] at hle
      try have hor := or_regs (a := a) (b := b) (by omega) (by omega) (by omega) (by omega)
      clear hcl hfz hcl2 hfz2
      first
        | (have hfin := ownsRow_mono hown (b' := w.heap.size) (by omega)
           simp [encL] at hfin ⊢
           first
             | exact hfin
             | (rw [hor] at hfin; exact hfin))
        | (simp [encL]
           exact ownsRow_mono (ownsRow_lit1 _ (.int .u8 op) 5 (w2.heap.size + 1) (w2.heap.size + 1) (by simp) (Nat.le_refl _)) (by omega))
end Go.Proofs.YtgfljokamgbcaaaGreatDoor.Isa
