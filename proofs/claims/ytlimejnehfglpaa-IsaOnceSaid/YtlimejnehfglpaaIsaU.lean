/- The walk of IsaOnce. -/
import Derived.Test.YtlimejnehfglpaaIsaT
import Derived.Test.YtlimejnehfglpaaIsaS
import Derived.Deep.RegionHeld3
namespace Go.Proofs.Ytlimejnehfglpaa
open Go.RowKit
set_option linter.unusedSimpArgs false
set_option linter.unusedVariables false

theorem own_slice {w : World} {base n s : Nat} {e : TypeId} {v : Value} {xs : List Value} (h : w.ownsRow base e s v n xs) (hn : 0 < n) : ∃ g cap, v = .slice (some ⟨g, 0, none⟩) n cap := by
  rcases h.2 with ⟨_, h'⟩ | ⟨g, cap, _, h', _⟩
  · omega
  · exact ⟨g, cap, h'⟩

/-- A slice that leads to bytes is, as a string, just these. -/
theorem conv_bytes {w : World} {blk off n cap : Nat} {L : List Int} (hl : L.length = n) (h : BytesIn w (some ⟨blk, off, none⟩) L) :
    (convert 26 9 (.slice (some ⟨blk, off, none⟩) n cap)).run Try.prog w = .ok (.string (strOfNums L)) w := by
  refine run_convert_bytes_arg w 26 5 Try.underlying26 Try.underlying5 blk off n cap L hl (fun i hi => ?_) 9 Try.underlying9
  rcases h with rfl | ⟨b, o, h1, h2⟩
  · simp at hl; omega
  · simp at h1
    obtain ⟨rfl, rfl⟩ := h1
    rw [h2 i (by omega)] <;> simp [List.getD, show i < L.length by omega]

set_option maxHeartbeats 2000000 in
theorem once_bad (host : Bool) (ao : Option Addr) (len cap : Nat) (L : List Int) (w : World) (hy : ByteArg w ao len cap L) (he : (decR host L).err ≠ 0) :
    Calls Try.prog 7 #[.slice ao len cap, .bool host] w fun e w' => e = .returned (.bool true) ∧ Below w.heap.size w w' := by
  obtain ⟨hL, hlc, hcm, hbt, hB⟩ := hy
  have HA0 := dec_c host ao len cap L w hL (by omega) hbt hB
  rw [none_law he] at HA0
  generalize (decR host L).err = err at he HA0
  unfold DR.post DecPost insV at HA0
  have HA := Lib.hid HA0
  have HW := Lib.hid works_c
  have e0 : (err == 0) = false := by simpa using he
  clear HA0 he hbt hB hL
  go_enter Try.func7, Try.ntmps7
  go_wp2_with fail
  refine HA.out.mono ?_
  rintro e w1 ⟨rfl, hb1⟩
  go_wp2_with fail
  refine (HW.out _).mono ?_
  rintro e w3 ⟨rfl, hb3⟩
  go_wp2_with fail
  go_ret
  exact ⟨rfl, below_box2 hb1 hb3⟩

set_option maxHeartbeats 4000000 in
theorem once_good (host : Bool) (ao : Option Addr) (len cap : Nat) (L : List Int) (w : World) (hy : ByteArg w ao len cap L) (he : (decR host L).err = 0) :
    Calls Try.prog 7 #[.slice ao len cap, .bool host] w fun e w' => e = .returned (.bool true) ∧ Below w.heap.size w w' := by
  obtain ⟨hL, hlc, hcm, hbt, hB⟩ := hy
  have HA := dec_c host ao len cap L w hL (by omega) hbt hB
  obtain ⟨hm, hE, n1, n2, o0, o1, a0, a1, b0, b1, i0, i1⟩ := once_law hbt he
  generalize decR host L = r at HA hm hE n1 n2 o0 o1 a0 a1 b0 b1 i0 i1 he
  obtain ⟨op, a, b, imm, n, err⟩ := r
  simp only at HA hm hE n1 n2 o0 o1 a0 a1 b0 b1 i0 i1 he
  subst he
  obtain ⟨m, rfl⟩ : ∃ m : Nat, n = (m : Int) := ⟨n.toNat, by omega⟩
  have HE := fun w => encode_yes op a b imm host w o0 o1 a0 a1 b0 b1 i0 i1 hm
  rw [hE, Int.toNat_natCast] at HE
  have hlm : (L.take m).length = m := by simp; omega
  have hBt := bytes_take hB m
  obtain ⟨blk, off, rfl⟩ : ∃ blk off, ao = some ⟨blk, off, none⟩ := by
    rcases hB with rfl | ⟨blk, off, h1, _⟩
    · simp at n2; omega
    · exact ⟨blk, off, h1⟩
  unfold DR.post DecPost at HA
  unfold insV at HA HE
  have g1 : decide (1 ≤ (m : Int)) = true := by simpa using n1
  have hml : (m : Int) ≤ (len : Int) := by rw [← hL]; exact n2
  have hmc : (m : Int) ≤ (cap : Int) := by omega
  have hmp : 0 < m := by omega
  clear hm hE n1 n2 o0 o1 a0 a1 b0 b1 i0 i1 hbt hB hL
  generalize L.take m = L' at HE hlm hBt
  obtain ⟨s, hs⟩ : ∃ s, strOfNums L' = s := ⟨_, rfl⟩
  have HS := Lib.hid hs
  have HL := Lib.hid hlm
  have HAh := Lib.hid HA
  have HEh := Lib.hid HE
  have HB := Lib.hid hBt
  have HW := Lib.hid works_c
  have g1' : (1 : Int) ≤ (m : Int) := by omega
  clear hs hlm HA HE hBt g1
  go_enter Try.func7, Try.ntmps7
  go_wp2_with fail
  refine HAh.out.mono ?_
  rintro e w1 ⟨rfl, hb1⟩
  go_wp2_with fail
  refine (HEh.out _).mono ?_
  rintro e w2 ⟨hb2, -, hv⟩
  obtain ⟨v, rfl, hown⟩ := hv rfl
  rw [HL.out] at hown
  obtain ⟨g, cap2, rfl⟩ := own_slice hown hmp
  have hB2 := below_box2 hb1 hb2
  have hby := bytes_below hB2 HB.out
  clear hv hb2 hb1
  go_wp2_with fail
  refine wp_region_held_drew (S := fun w' => w'.ownsRow (w1.heap.size + 1) 5 1 (.slice (some ⟨g, 0, none⟩) m cap2) m (L'.map (Value.int .u8)) ∧ BytesIn w' (some ⟨blk, off, none⟩) L' ∧ Below w.heap.size w w') (by kernel_rfl) ?_ (fun hHeld => ?_)
  · exact ⟨by simpa using hown.drew, hby, hB2.drew⟩
  refine wpAnyH_take (i := 0) (oi := { dst := some 35, op := Op.move (Operand.tmp 9), type := 27, pos := "outright.go:29", after := #[], guard := none }) (v := .int .i64 0) rfl (by kernel_rfl) (by kernel_rfl) (by kernel_rfl) (fun _ _ _ h => h) (Or.inl ⟨by rfl, ?_⟩) hHeld ?_
  · intro w' hSw
    obtain ⟨k1, k2, -⟩ := hSw
    go_simp
  try simp only [Act.put, List.setIfInBounds_toArray, List.set_cons_zero, List.set_cons_succ]
  refine wpAnyH_take (i := 1) (oi := { dst := some 36, op := Op.binOp BinOp.eql 27 (Operand.tmp 35) (Operand.const (Value.int IntKind.i64 0)) 27, type := 4, pos := "outright.go:29", after := #[{ on := 0, ground := Ground.data }], guard := none }) (v := .bool true) rfl (by kernel_rfl) (by kernel_rfl) (by kernel_rfl) (fun _ _ _ h => h) (Or.inl ⟨by rfl, ?_⟩) hHeld ?_
  · intro w' hSw
    obtain ⟨k1, k2, -⟩ := hSw
    go_simp
  try simp only [Act.put, List.setIfInBounds_toArray, List.set_cons_zero, List.set_cons_succ]
  refine wpAnyH_take (i := 2) (oi := { dst := some 37, op := Op.move (Operand.tmp 36), type := 4, pos := "outright.go:29", after := #[{ on := 1, ground := Ground.data }], guard := none }) (v := .bool true) rfl (by kernel_rfl) (by kernel_rfl) (by kernel_rfl) (fun _ _ _ h => h) (Or.inl ⟨by rfl, ?_⟩) hHeld ?_
  · intro w' hSw
    obtain ⟨k1, k2, -⟩ := hSw
    go_simp
  try simp only [Act.put, List.setIfInBounds_toArray, List.set_cons_zero, List.set_cons_succ]
  refine wpAnyH_take (i := 3) (oi := { dst := some 38, op := Op.move (Operand.tmp 6), type := 3, pos := "outright.go:29", after := #[{ on := 2, ground := Ground.guard }], guard := some (2, true) }) (v := .int .i64 (m : Int)) rfl (by kernel_rfl) (by kernel_rfl) (by kernel_rfl) (fun _ _ _ h => h) (Or.inl ⟨by rfl, ?_⟩) hHeld ?_
  · intro w' hSw
    obtain ⟨k1, k2, -⟩ := hSw
    go_simp
  try simp only [Act.put, List.setIfInBounds_toArray, List.set_cons_zero, List.set_cons_succ]
  refine wpAnyH_take (i := 4) (oi := { dst := some 39, op := Op.binOp BinOp.geq 3 (Operand.tmp 38) (Operand.const (Value.int IntKind.i64 1)) 3, type := 4, pos := "outright.go:29", after := #[{ on := 3, ground := Ground.data }, { on := 2, ground := Ground.guard }], guard := some (2, true) }) (v := .bool true) rfl (by kernel_rfl) (by kernel_rfl) (by kernel_rfl) (fun _ _ _ h => h) (Or.inl ⟨by rfl, ?_⟩) hHeld ?_
  · intro w' hSw
    obtain ⟨k1, k2, -⟩ := hSw
    go_simp
  try simp only [Act.put, List.setIfInBounds_toArray, List.set_cons_zero, List.set_cons_succ]
  refine wpAnyH_take (i := 5) (oi := { dst := some 40, op := Op.pick (Operand.tmp 37) (Operand.tmp 39) (Operand.const (Value.bool false)), type := 4, pos := "outright.go:29", after := #[{ on := 2, ground := Ground.data }, { on := 4, ground := Ground.data }], guard := none }) (v := .bool true) rfl (by kernel_rfl) (by kernel_rfl) (by kernel_rfl) (fun _ _ _ h => h) (Or.inl ⟨by rfl, ?_⟩) hHeld ?_
  · intro w' hSw
    obtain ⟨k1, k2, -⟩ := hSw
    go_simp
  try simp only [Act.put, List.setIfInBounds_toArray, List.set_cons_zero, List.set_cons_succ]
  refine wpAnyH_take (i := 6) (oi := { dst := some 41, op := Op.move (Operand.tmp 40), type := 4, pos := "outright.go:29", after := #[{ on := 5, ground := Ground.data }, { on := 2, ground := Ground.chain }], guard := none }) (v := .bool true) rfl (by kernel_rfl) (by kernel_rfl) (by kernel_rfl) (fun _ _ _ h => h) (Or.inl ⟨by rfl, ?_⟩) hHeld ?_
  · intro w' hSw
    obtain ⟨k1, k2, -⟩ := hSw
    go_simp
  try simp only [Act.put, List.setIfInBounds_toArray, List.set_cons_zero, List.set_cons_succ]
  refine wpAnyH_take (i := 7) (oi := { dst := some 42, op := Op.move (Operand.tmp 6), type := 3, pos := "outright.go:29", after := #[{ on := 6, ground := Ground.guard }], guard := some (6, true) }) (v := .int .i64 (m : Int)) rfl (by kernel_rfl) (by kernel_rfl) (by kernel_rfl) (fun _ _ _ h => h) (Or.inl ⟨by rfl, ?_⟩) hHeld ?_
  · intro w' hSw
    obtain ⟨k1, k2, -⟩ := hSw
    go_simp
  try simp only [Act.put, List.setIfInBounds_toArray, List.set_cons_zero, List.set_cons_succ]
  refine wpAnyH_take (i := 8) (oi := { dst := some 43, op := Op.move (Operand.tmp 0), type := 26, pos := "outright.go:29", after := #[{ on := 6, ground := Ground.guard }], guard := some (6, true) }) (v := .slice (some ⟨blk, off, none⟩) len cap) rfl (by kernel_rfl) (by kernel_rfl) (by kernel_rfl) (fun _ _ _ h => h) (Or.inl ⟨by rfl, ?_⟩) hHeld ?_
  · intro w' hSw
    obtain ⟨k1, k2, -⟩ := hSw
    go_simp
  try simp only [Act.put, List.setIfInBounds_toArray, List.set_cons_zero, List.set_cons_succ]
  refine wpAnyH_take (i := 9) (oi := { dst := some 44, op := Op.call { callee := Callee.builtin Builtin.len, args := #[Operand.tmp 43], argTypes := #[26] }, type := 3, pos := "outright.go:29", after := #[{ on := 8, ground := Ground.data }, { on := 6, ground := Ground.guard }], guard := some (6, true) }) (v := .int .i64 (len : Int)) rfl (by kernel_rfl) (by kernel_rfl) (by kernel_rfl) (fun _ _ _ h => h) (Or.inl ⟨by rfl, ?_⟩) hHeld ?_
  · intro w' hSw
    obtain ⟨k1, k2, -⟩ := hSw
    go_simp
  try simp only [Act.put, List.setIfInBounds_toArray, List.set_cons_zero, List.set_cons_succ]
  refine wpAnyH_take (i := 10) (oi := { dst := some 45, op := Op.binOp BinOp.leq 3 (Operand.tmp 42) (Operand.tmp 44) 3, type := 4, pos := "outright.go:29", after := #[{ on := 7, ground := Ground.data }, { on := 9, ground := Ground.data }, { on := 6, ground := Ground.guard }], guard := some (6, true) }) (v := .bool true) rfl (by kernel_rfl) (by kernel_rfl) (by kernel_rfl) (fun _ _ _ h => h) (Or.inl ⟨by rfl, ?_⟩) hHeld ?_
  · intro w' hSw
    obtain ⟨k1, k2, -⟩ := hSw
    go_simp
  try simp only [Act.put, List.setIfInBounds_toArray, List.set_cons_zero, List.set_cons_succ]
  refine wpAnyH_take (i := 11) (oi := { dst := some 46, op := Op.pick (Operand.tmp 41) (Operand.tmp 45) (Operand.const (Value.bool false)), type := 4, pos := "outright.go:29", after := #[{ on := 6, ground := Ground.data }, { on := 10, ground := Ground.data }], guard := none }) (v := .bool true) rfl (by kernel_rfl) (by kernel_rfl) (by kernel_rfl) (fun _ _ _ h => h) (Or.inl ⟨by rfl, ?_⟩) hHeld ?_
  · intro w' hSw
    obtain ⟨k1, k2, -⟩ := hSw
    go_simp
  try simp only [Act.put, List.setIfInBounds_toArray, List.set_cons_zero, List.set_cons_succ]
  refine wpAnyH_take (i := 12) (oi := { dst := some 47, op := Op.move (Operand.tmp 46), type := 4, pos := "outright.go:29", after := #[{ on := 11, ground := Ground.data }, { on := 6, ground := Ground.chain }], guard := none }) (v := .bool true) rfl (by kernel_rfl) (by kernel_rfl) (by kernel_rfl) (fun _ _ _ h => h) (Or.inl ⟨by rfl, ?_⟩) hHeld ?_
  · intro w' hSw
    obtain ⟨k1, k2, -⟩ := hSw
    go_simp
  try simp only [Act.put, List.setIfInBounds_toArray, List.set_cons_zero, List.set_cons_succ]
  refine wpAnyH_take (i := 13) (oi := { dst := some 48, op := Op.move (Operand.tmp 8), type := 26, pos := "outright.go:29", after := #[{ on := 12, ground := Ground.guard }], guard := some (12, true) }) (v := .slice (some ⟨g, 0, none⟩) m cap2) rfl (by kernel_rfl) (by kernel_rfl) (by kernel_rfl) (fun _ _ _ h => h) (Or.inl ⟨by rfl, ?_⟩) hHeld ?_
  · intro w' hSw
    obtain ⟨k1, k2, -⟩ := hSw
    go_simp
  try simp only [Act.put, List.setIfInBounds_toArray, List.set_cons_zero, List.set_cons_succ]
  refine wpAnyH_take (i := 14) (oi := { dst := some 49, op := Op.convert 26 9 (Operand.tmp 48), type := 9, pos := "outright.go:29", after := #[{ on := 13, ground := Ground.data }, { on := 12, ground := Ground.guard }], guard := some (12, true) }) (v := .string s) rfl (by kernel_rfl) (by kernel_rfl) (by kernel_rfl) (fun _ _ _ h => h) (Or.inl ⟨by rfl, ?_⟩) hHeld ?_
  · intro w' hSw
    obtain ⟨k1, k2, -⟩ := hSw
    have hC := conv_owned k1
    rw [HS.out] at hC
    go_simp
  try simp only [Act.put, List.setIfInBounds_toArray, List.set_cons_zero, List.set_cons_succ]
  refine wpAnyH_take (i := 15) (oi := { dst := some 50, op := Op.move (Operand.tmp 0), type := 26, pos := "outright.go:29", after := #[{ on := 12, ground := Ground.guard }], guard := some (12, true) }) (v := .slice (some ⟨blk, off, none⟩) len cap) rfl (by kernel_rfl) (by kernel_rfl) (by kernel_rfl) (fun _ _ _ h => h) (Or.inl ⟨by rfl, ?_⟩) hHeld ?_
  · intro w' hSw
    obtain ⟨k1, k2, -⟩ := hSw
    go_simp
  try simp only [Act.put, List.setIfInBounds_toArray, List.set_cons_zero, List.set_cons_succ]
  refine wpAnyH_take (i := 16) (oi := { dst := some 51, op := Op.move (Operand.tmp 6), type := 3, pos := "outright.go:29", after := #[{ on := 12, ground := Ground.guard }], guard := some (12, true) }) (v := .int .i64 (m : Int)) rfl (by kernel_rfl) (by kernel_rfl) (by kernel_rfl) (fun _ _ _ h => h) (Or.inl ⟨by rfl, ?_⟩) hHeld ?_
  · intro w' hSw
    obtain ⟨k1, k2, -⟩ := hSw
    go_simp
  try simp only [Act.put, List.setIfInBounds_toArray, List.set_cons_zero, List.set_cons_succ]
  refine wpAnyH_take (i := 17) (oi := { dst := some 52, op := Op.slice 26 (Operand.tmp 50) none (some (Operand.tmp 51)) none, type := 26, pos := "outright.go:29", after := #[{ on := 15, ground := Ground.data }, { on := 16, ground := Ground.data }, { on := 12, ground := Ground.guard }], guard := some (12, true) }) (v := .slice (some ⟨blk, off, none⟩) m cap) rfl (by kernel_rfl) (by kernel_rfl) (by kernel_rfl) (fun _ _ _ h => h) (Or.inl ⟨by rfl, ?_⟩) hHeld ?_
  · intro w' hSw
    obtain ⟨k1, k2, -⟩ := hSw
    go_simp
  try simp only [Act.put, List.setIfInBounds_toArray, List.set_cons_zero, List.set_cons_succ]
  refine wpAnyH_take (i := 18) (oi := { dst := some 53, op := Op.convert 26 9 (Operand.tmp 52), type := 9, pos := "outright.go:29", after := #[{ on := 17, ground := Ground.data }, { on := 12, ground := Ground.guard }], guard := some (12, true) }) (v := .string s) rfl (by kernel_rfl) (by kernel_rfl) (by kernel_rfl) (fun _ _ _ h => h) (Or.inl ⟨by rfl, ?_⟩) hHeld ?_
  · intro w' hSw
    obtain ⟨k1, k2, -⟩ := hSw
    have hC := conv_bytes (cap := cap) HL.out k2
    rw [HS.out] at hC
    go_simp
  try simp only [Act.put, List.setIfInBounds_toArray, List.set_cons_zero, List.set_cons_succ]
  refine wpAnyH_take (i := 19) (oi := { dst := some 54, op := Op.binOp BinOp.eql 9 (Operand.tmp 49) (Operand.tmp 53) 9, type := 4, pos := "outright.go:29", after := #[{ on := 14, ground := Ground.data }, { on := 18, ground := Ground.data }, { on := 12, ground := Ground.guard }], guard := some (12, true) }) (v := .bool true) rfl (by kernel_rfl) (by kernel_rfl) (by kernel_rfl) (fun _ _ _ h => h) (Or.inl ⟨by rfl, ?_⟩) hHeld ?_
  · intro w' hSw
    obtain ⟨k1, k2, -⟩ := hSw
    go_simp
  try simp only [Act.put, List.setIfInBounds_toArray, List.set_cons_zero, List.set_cons_succ]
  refine wpAnyH_take (i := 20) (oi := { dst := some 55, op := Op.pick (Operand.tmp 47) (Operand.tmp 54) (Operand.const (Value.bool false)), type := 4, pos := "outright.go:29", after := #[{ on := 12, ground := Ground.data }, { on := 19, ground := Ground.data }], guard := none }) (v := .bool true) rfl (by kernel_rfl) (by kernel_rfl) (by kernel_rfl) (fun _ _ _ h => h) (Or.inl ⟨by rfl, ?_⟩) hHeld ?_
  · intro w' hSw
    obtain ⟨k1, k2, -⟩ := hSw
    go_simp
  try simp only [Act.put, List.setIfInBounds_toArray, List.set_cons_zero, List.set_cons_succ]
  refine wpAnyH_take (i := 21) (oi := { dst := some 56, op := Op.move (Operand.tmp 55), type := 4, pos := "outright.go:29", after := #[{ on := 20, ground := Ground.data }, { on := 12, ground := Ground.chain }], guard := none }) (v := .bool true) rfl (by kernel_rfl) (by kernel_rfl) (by kernel_rfl) (fun _ _ _ h => h) (Or.inl ⟨by rfl, ?_⟩) hHeld ?_
  · intro w' hSw
    obtain ⟨k1, k2, -⟩ := hSw
    go_simp
  try simp only [Act.put, List.setIfInBounds_toArray, List.set_cons_zero, List.set_cons_succ]
  refine wpAnyH_ready (rs := [22]) (by kernel_rfl) (by simp) ?_
  refine AllReadyH.cons (o := { dst := some 57, op := Op.call { callee := Callee.value (Operand.func 13), args := #[], argTypes := #[] }, type := 4, pos := "outright.go:29", after := #[{ on := 21, ground := Ground.chain }, { on := 21, ground := Ground.guard }], guard := some (21, true) }) rfl (fun K hK => ?_) AllReadyH.nil
  go_simp
  go_at_call 13
  refine (HW.out _).mono ?_
  rintro e w3 ⟨rfl, hb⟩
  obtain ⟨m1, m2, m3⟩ := hHeld
  refine hK.out _ _ ⟨own_below hb m1, bytes_below hb m2, below_next m3 hb⟩ (fun hHeld => ?_)
  clear hK K hb m1 m2 m3
  try simp only [Act.put, List.setIfInBounds_toArray, List.set_cons_zero, List.set_cons_succ]
  refine wpAnyH_take (i := 23) (oi := { dst := some 58, op := Op.pick (Operand.tmp 56) (Operand.tmp 57) (Operand.const (Value.bool false)), type := 4, pos := "outright.go:29", after := #[{ on := 21, ground := Ground.data }, { on := 22, ground := Ground.data }], guard := none }) (v := .bool true) rfl (by kernel_rfl) (by kernel_rfl) (by kernel_rfl) (fun _ _ _ h => h) (Or.inl ⟨by rfl, ?_⟩) hHeld ?_
  · intro w' hSw
    obtain ⟨k1, k2, -⟩ := hSw
    go_simp
  try simp only [Act.put, List.setIfInBounds_toArray, List.set_cons_zero, List.set_cons_succ]
  refine wpAnyH_take (i := 24) (oi := { dst := some 4, op := Op.assign (Operand.tmp 58), type := 4, pos := "outright.go:29", after := #[{ on := 23, ground := Ground.data }, { on := 22, ground := Ground.chain }, { on := 0, ground := Ground.phase }, { on := 1, ground := Ground.phase }, { on := 2, ground := Ground.phase }, { on := 3, ground := Ground.phase }, { on := 4, ground := Ground.phase }, { on := 5, ground := Ground.phase }, { on := 6, ground := Ground.phase }, { on := 7, ground := Ground.phase }, { on := 8, ground := Ground.phase }, { on := 9, ground := Ground.phase }, { on := 10, ground := Ground.phase }, { on := 11, ground := Ground.phase }, { on := 12, ground := Ground.phase }, { on := 13, ground := Ground.phase }, { on := 14, ground := Ground.phase }, { on := 15, ground := Ground.phase }, { on := 16, ground := Ground.phase }, { on := 17, ground := Ground.phase }, { on := 18, ground := Ground.phase }, { on := 19, ground := Ground.phase }, { on := 20, ground := Ground.phase }, { on := 21, ground := Ground.phase }, { on := 22, ground := Ground.phase }, { on := 23, ground := Ground.phase }], guard := none }) (v := .bool true) rfl (by kernel_rfl) (by kernel_rfl) (by kernel_rfl) (fun _ _ _ h => h) (Or.inl ⟨by rfl, ?_⟩) hHeld ?_
  · intro w' hSw
    obtain ⟨k1, k2, -⟩ := hSw
    go_simp
  try simp only [Act.put, List.setIfInBounds_toArray, List.set_cons_zero, List.set_cons_succ]
  refine wpAnyH_done (by kernel_rfl) ?_ _
  go_wp2_with fail
  go_ret
  exact ⟨rfl, hHeld.2.2⟩

theorem once_walk (ao : Option Addr) (len cap : Nat) (L : List Int) (host : Bool) (w : World) (hy : ByteArg w ao len cap L) :
    Calls Try.prog 7 #[.slice ao len cap, .bool host] w fun e w' => e = .returned (.bool true) ∧ Below w.heap.size w w' := by
  by_cases he : (decR host L).err = 0
  · exact once_good host ao len cap L w hy he
  · exact once_bad host ao len cap L w hy he
end Go.Proofs.Ytlimejnehfglpaa
