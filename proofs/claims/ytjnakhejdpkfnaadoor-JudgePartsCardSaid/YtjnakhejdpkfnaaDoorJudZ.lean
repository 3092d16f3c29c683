/- The document's rest, Part and Tell, and the walk of JudgeParts. (Written by mkJZ.py.) -/
import Derived.Test.YtjnakhejdpkfnaaDoorJudY
import Derived.Test.YtjnakhejdpkfnaaDoorJudSelf
namespace Go.Proofs.YtjnakhejdpkfnaaDoor
open Go.RowKit
set_option linter.unusedSimpArgs false
set_option linter.unusedVariables false
set_option maxRecDepth 100000

def rnS (a b : Int) : ByteArray := ⟨#[32]⟩ ++ numS a ++ ⟨#[44, 32]⟩ ++ numS b
def rsS (x : Nat → Int) (h : Bool) (y : Nat → Int) (g : Bool) (k : Nat) : ByteArray := ⟨#[32]⟩ ++ ⟨(nameJ k).toArray⟩ ++ ⟨#[32]⟩ ++ bothS (numS (valJ x h k)) (numS (valJ y g k))
def rlS (n : Int) : ByteArray := ⟨#[32, 97, 116, 32]⟩ ++ numS n
/-- What the document tells of each part, behind its name. -/
noncomputable def restsJ (s r : SvR) (x : Nat → Int) (h : Bool) (y : Nat → Int) (g : Bool) : List ByteArray :=
  [rnS s.fr r.fr, rnS s.st r.st, rsS x h y g ((diffJ x h y g 19).headD 0), rbS (firstL s.mem.L r.mem.L).toNat s.mem.L r.mem.L, rlS (firstE s.notes.L r.notes.L), rbS (firstL s.out.L r.out.L).toNat s.out.L r.out.L, rbS (firstL s.disk.L r.disk.L).toNat s.disk.L r.disk.L, rbS (firstL s.queue.L r.queue.L).toNat s.queue.L r.queue.L, rlS (firstE s.script.L r.script.L), ⟨#[]⟩]

set_option maxHeartbeats 4000000 in
theorem Part_c (k : Nat) (hk : k < 10) (w : World) :
    Calls Tryd.prog 21 #[.int .i64 (k : Int)] w fun e w' => (∃ nm, nmJ[k]? = some nm ∧ e = .returned (.string nm)) ∧ Below w.heap.size w w' := by
  rcases (by omega : k = 0 ∨ k = 1 ∨ k = 2 ∨ k = 3 ∨ k = 4 ∨ k = 5 ∨ k = 6 ∨ k = 7 ∨ k = 8 ∨ k = 9) with rfl | rfl | rfl | rfl | rfl | rfl | rfl | rfl | rfl | rfl
  all_goals
    go_enter Tryd.func21, Tryd.ntmps21
    go_wp2_with fail
    go_ret
    exact ⟨⟨_, rfl, rfl⟩, below_alloc1 _ _⟩

theorem sz_add {a b : ByteArray} {m n : Nat} (ha : a.size ≤ m) (hb : b.size ≤ n) : (a ++ b).size ≤ m + n := by rw [ByteArray.size_append]; omega

set_option maxHeartbeats 8000000 in
theorem rest0_c (A B : Array Value) (s r : SvR) (hA : SvAt A s) (hB : SvAt B r) (x : Nat → Int) (h : Bool) (y : Nat → Int) (g : Bool) (w : World) (hs : GsOk s x h w) (hr : GsOk r y g w) :
    Calls Tryd.prog 32 #[.int .i64 0, .agg A, .agg B] w fun e w' => e = .returned (.string (rnS s.fr r.fr)) ∧ Below w.heap.size w w' := by
  have hzA : A.size = 35 := hA.size
  have hzB : B.size = 35 := hB.size
  have HAt := Lib.hid hA
  have HBt := Lib.hid hB
  have HI : Hid (PrS w A B ((w.alloc (.cells A 30)).alloc (.cells B 30))) :=
    Lib.hid ⟨heap_old' (heap_new' rfl), heap_new' (by simp), (below_alloc1 w _).alloc (by simp) _, by simp⟩
  have HX := Lib.hid fun W => rdec_c s.fr hs.ok.fr0 hs.ok.fr1 W
  have HY := Lib.hid fun W => rdec_c r.fr hr.ok.fr0 hr.ok.fr1 W
  have zx := numS_size s.fr hs.ok.fr0 hs.ok.fr1
  have zy := numS_size r.fr hr.ok.fr0 hr.ok.fr1
  unfold rnS
  clear hA hB hs hr
  generalize numS s.fr = X at HX zx ⊢
  generalize numS r.fr = Y at HY zy ⊢
  have z1 : ((⟨#[32]⟩ : ByteArray) ++ X).size ≤ 1 + 20 := sz_add (Nat.le_refl _) zx
  have z2 : ((⟨#[32]⟩ : ByteArray) ++ X ++ ⟨#[44, 32]⟩).size ≤ 1 + 20 + 2 := sz_add z1 (Nat.le_refl _)
  go_enter Tryd.func32, Tryd.ntmps32
  go_wp2_with fail
  refine wp_region_held_drew (S := fun w' => PrS w A B w') (by kernel_rfl) (HI.out.next (Below.refl _ _).drew) (fun hHeld => ?_)
  clear HI
  refine wpAnyH_take (i := 0) (oi := { dst := some 10, op := Op.fieldAddr _ (Operand.tmp 4) 0, type := _, pos := "ref.go:136", after := #[], guard := none }) (v := .pointer (some ⟨w.heap.size, 0, none⟩)) rfl (by kernel_rfl) (by kernel_rfl) (by kernel_rfl) (fun _ _ _ h => h) (Or.inl ⟨by rfl, ?_⟩) hHeld ?_
  · intro w' hSw
    skip
    go_simp
  try simp only [Act.put, List.setIfInBounds_toArray, List.set_cons_zero, List.set_cons_succ]
  refine wpAnyH_take (i := 1) (oi := { dst := some 11, op := Op.load _ (Operand.tmp 10), type := _, pos := "ref.go:136", after := #[{ on := 0, ground := Ground.data }], guard := none }) (v := .int .i64 s.fr) rfl (by kernel_rfl) (by kernel_rfl) (by kernel_rfl) (fun _ _ _ h => h) (Or.inl ⟨by rfl, ?_⟩) hHeld ?_
  · intro w' hSw
    have k0 := (cell_of_row w' _ 0 _ _ _ hSw.a).trans HAt.out.fr
    go_simp
  try simp only [Act.put, List.setIfInBounds_toArray, List.set_cons_zero, List.set_cons_succ]
  refine wpAnyH_take (i := 5) (oi := { dst := some 15, op := Op.fieldAddr _ (Operand.tmp 5) 0, type := _, pos := "ref.go:136", after := #[], guard := none }) (v := .pointer (some ⟨w.heap.size + 1, 0, none⟩)) rfl (by kernel_rfl) (by kernel_rfl) (by kernel_rfl) (fun _ _ _ h => h) (Or.inl ⟨by rfl, ?_⟩) hHeld ?_
  · intro w' hSw
    skip
    go_simp
  try simp only [Act.put, List.setIfInBounds_toArray, List.set_cons_zero, List.set_cons_succ]
  refine wpAnyH_take (i := 6) (oi := { dst := some 16, op := Op.load _ (Operand.tmp 15), type := _, pos := "ref.go:136", after := #[{ on := 5, ground := Ground.data }], guard := none }) (v := .int .i64 r.fr) rfl (by kernel_rfl) (by kernel_rfl) (by kernel_rfl) (fun _ _ _ h => h) (Or.inl ⟨by rfl, ?_⟩) hHeld ?_
  · intro w' hSw
    have k0 := (cell_of_row w' _ 0 _ _ _ hSw.b).trans HBt.out.fr
    go_simp
  try simp only [Act.put, List.setIfInBounds_toArray, List.set_cons_zero, List.set_cons_succ]
  refine wpAnyH_ready (rs := [2]) (by kernel_rfl) (by simp) ?_
  refine AllReadyH.cons (o := { dst := some 12, op := Op.call { callee := Callee.value (Operand.func _), args := #[Operand.tmp 11], argTypes := _ }, type := _, pos := "ref.go:136", after := #[{ on := 1, ground := Ground.data }], guard := none }) rfl (fun K hK => ?_) AllReadyH.nil
  go_simp
  go_at_call 44
  refine (HX.out _).mono ?_
  rintro e w2 ⟨rfl, rfl⟩
  refine hK.out _ _ hHeld (fun hHeld => ?_)
  clear hK K
  try simp only [Act.put, List.setIfInBounds_toArray, List.set_cons_zero, List.set_cons_succ]
  refine wpAnyH_take (i := 3) (oi := { dst := some 13, op := Op.binOp BinOp.add _ (Operand.const (Value.string { data := #[32] })) (Operand.tmp 12) _, type := _, pos := "ref.go:136", after := #[{ on := 2, ground := Ground.data }], guard := none }) (v := .string (⟨#[32]⟩ ++ X)) rfl (by kernel_rfl) (by kernel_rfl) (by kernel_rfl) (fun _ _ _ h => h) (Or.inl ⟨by rfl, ?_⟩) hHeld ?_
  · intro w' hSw
    skip
    go_simp
    all_goals omega
  try simp only [Act.put, List.setIfInBounds_toArray, List.set_cons_zero, List.set_cons_succ]
  refine wpAnyH_take (i := 4) (oi := { dst := some 14, op := Op.binOp BinOp.add _ (Operand.tmp 13) (Operand.const (Value.string { data := #[44, 32] })) _, type := _, pos := "ref.go:136", after := #[{ on := 3, ground := Ground.data }], guard := none }) (v := .string (⟨#[32]⟩ ++ X ++ ⟨#[44, 32]⟩)) rfl (by kernel_rfl) (by kernel_rfl) (by kernel_rfl) (fun _ _ _ h => h) (Or.inl ⟨by rfl, ?_⟩) hHeld ?_
  · intro w' hSw
    skip
    go_simp
    all_goals omega
  try simp only [Act.put, List.setIfInBounds_toArray, List.set_cons_zero, List.set_cons_succ]
  refine wpAnyH_ready (rs := [7]) (by kernel_rfl) (by simp) ?_
  refine AllReadyH.cons (o := { dst := some 17, op := Op.call { callee := Callee.value (Operand.func _), args := #[Operand.tmp 16], argTypes := _ }, type := _, pos := "ref.go:136", after := #[{ on := 6, ground := Ground.data }, { on := 2, ground := Ground.chain }], guard := none }) rfl (fun K hK => ?_) AllReadyH.nil
  go_simp
  go_at_call 44
  refine (HY.out _).mono ?_
  rintro e w7 ⟨rfl, rfl⟩
  refine hK.out _ _ hHeld (fun hHeld => ?_)
  clear hK K
  try simp only [Act.put, List.setIfInBounds_toArray, List.set_cons_zero, List.set_cons_succ]
  refine wpAnyH_take (i := 8) (oi := { dst := some 18, op := Op.binOp BinOp.add _ (Operand.tmp 14) (Operand.tmp 17) _, type := _, pos := "ref.go:136", after := #[{ on := 4, ground := Ground.data }, { on := 7, ground := Ground.data }], guard := none }) (v := .string (⟨#[32]⟩ ++ X ++ ⟨#[44, 32]⟩ ++ Y)) rfl (by kernel_rfl) (by kernel_rfl) (by kernel_rfl) (fun _ _ _ h => h) (Or.inl ⟨by rfl, ?_⟩) hHeld ?_
  · intro w' hSw
    skip
    go_simp
    all_goals omega
  try simp only [Act.put, List.setIfInBounds_toArray, List.set_cons_zero, List.set_cons_succ]
  refine wpAnyH_take (i := 9) (oi := { dst := some 6, op := Op.assign (Operand.tmp 18), type := _, pos := "ref.go:136", after := #[{ on := 8, ground := Ground.data }, { on := 7, ground := Ground.chain }, { on := 0, ground := Ground.phase }, { on := 1, ground := Ground.phase }, { on := 2, ground := Ground.phase }, { on := 3, ground := Ground.phase }, { on := 4, ground := Ground.phase }, { on := 5, ground := Ground.phase }, { on := 6, ground := Ground.phase }, { on := 7, ground := Ground.phase }, { on := 8, ground := Ground.phase }], guard := none }) (v := .string (⟨#[32]⟩ ++ X ++ ⟨#[44, 32]⟩ ++ Y)) rfl (by kernel_rfl) (by kernel_rfl) (by kernel_rfl) (fun _ _ _ h => h) (Or.inl ⟨by rfl, ?_⟩) hHeld ?_
  · intro w' hSw
    skip
    go_simp
  try simp only [Act.put, List.setIfInBounds_toArray, List.set_cons_zero, List.set_cons_succ]
  refine wpAnyH_done (by kernel_rfl) ?_ _
  go_wp2_with fail
  go_ret
  exact ⟨rfl, hHeld.below⟩

set_option maxHeartbeats 8000000 in
theorem rest1_c (A B : Array Value) (s r : SvR) (hA : SvAt A s) (hB : SvAt B r) (x : Nat → Int) (h : Bool) (y : Nat → Int) (g : Bool) (w : World) (hs : GsOk s x h w) (hr : GsOk r y g w) :
    Calls Tryd.prog 32 #[.int .i64 1, .agg A, .agg B] w fun e w' => e = .returned (.string (rnS s.st r.st)) ∧ Below w.heap.size w w' := by
  have hzA : A.size = 35 := hA.size
  have hzB : B.size = 35 := hB.size
  have HAt := Lib.hid hA
  have HBt := Lib.hid hB
  have HI : Hid (PrS w A B ((w.alloc (.cells A 30)).alloc (.cells B 30))) :=
    Lib.hid ⟨heap_old' (heap_new' rfl), heap_new' (by simp), (below_alloc1 w _).alloc (by simp) _, by simp⟩
  have HX := Lib.hid fun W => rdec_c s.st hs.ok.st0 hs.ok.st1 W
  have HY := Lib.hid fun W => rdec_c r.st hr.ok.st0 hr.ok.st1 W
  have zx := numS_size s.st hs.ok.st0 hs.ok.st1
  have zy := numS_size r.st hr.ok.st0 hr.ok.st1
  unfold rnS
  clear hA hB hs hr
  generalize numS s.st = X at HX zx ⊢
  generalize numS r.st = Y at HY zy ⊢
  have z1 : ((⟨#[32]⟩ : ByteArray) ++ X).size ≤ 1 + 20 := sz_add (Nat.le_refl _) zx
  have z2 : ((⟨#[32]⟩ : ByteArray) ++ X ++ ⟨#[44, 32]⟩).size ≤ 1 + 20 + 2 := sz_add z1 (Nat.le_refl _)
  go_enter Tryd.func32, Tryd.ntmps32
  go_wp2_with fail
  refine wp_region_held_drew (S := fun w' => PrS w A B w') (by kernel_rfl) (HI.out.next (Below.refl _ _).drew) (fun hHeld => ?_)
  clear HI
  refine wpAnyH_take (i := 0) (oi := { dst := some 21, op := Op.fieldAddr _ (Operand.tmp 4) 3, type := _, pos := "ref.go:139", after := #[], guard := none }) (v := .pointer (some ⟨w.heap.size, 21, none⟩)) rfl (by kernel_rfl) (by kernel_rfl) (by kernel_rfl) (fun _ _ _ h => h) (Or.inl ⟨by rfl, ?_⟩) hHeld ?_
  · intro w' hSw
    skip
    go_simp
  try simp only [Act.put, List.setIfInBounds_toArray, List.set_cons_zero, List.set_cons_succ]
  refine wpAnyH_take (i := 1) (oi := { dst := some 22, op := Op.load _ (Operand.tmp 21), type := _, pos := "ref.go:139", after := #[{ on := 0, ground := Ground.data }], guard := none }) (v := .int .i64 s.st) rfl (by kernel_rfl) (by kernel_rfl) (by kernel_rfl) (fun _ _ _ h => h) (Or.inl ⟨by rfl, ?_⟩) hHeld ?_
  · intro w' hSw
    have k0 := (cell_of_row w' _ 21 _ _ _ hSw.a).trans HAt.out.st
    go_simp
  try simp only [Act.put, List.setIfInBounds_toArray, List.set_cons_zero, List.set_cons_succ]
  refine wpAnyH_take (i := 5) (oi := { dst := some 26, op := Op.fieldAddr _ (Operand.tmp 5) 3, type := _, pos := "ref.go:139", after := #[], guard := none }) (v := .pointer (some ⟨w.heap.size + 1, 21, none⟩)) rfl (by kernel_rfl) (by kernel_rfl) (by kernel_rfl) (fun _ _ _ h => h) (Or.inl ⟨by rfl, ?_⟩) hHeld ?_
  · intro w' hSw
    skip
    go_simp
  try simp only [Act.put, List.setIfInBounds_toArray, List.set_cons_zero, List.set_cons_succ]
  refine wpAnyH_take (i := 6) (oi := { dst := some 27, op := Op.load _ (Operand.tmp 26), type := _, pos := "ref.go:139", after := #[{ on := 5, ground := Ground.data }], guard := none }) (v := .int .i64 r.st) rfl (by kernel_rfl) (by kernel_rfl) (by kernel_rfl) (fun _ _ _ h => h) (Or.inl ⟨by rfl, ?_⟩) hHeld ?_
  · intro w' hSw
    have k0 := (cell_of_row w' _ 21 _ _ _ hSw.b).trans HBt.out.st
    go_simp
  try simp only [Act.put, List.setIfInBounds_toArray, List.set_cons_zero, List.set_cons_succ]
  refine wpAnyH_ready (rs := [2]) (by kernel_rfl) (by simp) ?_
  refine AllReadyH.cons (o := { dst := some 23, op := Op.call { callee := Callee.value (Operand.func _), args := #[Operand.tmp 22], argTypes := _ }, type := _, pos := "ref.go:139", after := #[{ on := 1, ground := Ground.data }], guard := none }) rfl (fun K hK => ?_) AllReadyH.nil
  go_simp
  go_at_call 44
  refine (HX.out _).mono ?_
  rintro e w2 ⟨rfl, rfl⟩
  refine hK.out _ _ hHeld (fun hHeld => ?_)
  clear hK K
  try simp only [Act.put, List.setIfInBounds_toArray, List.set_cons_zero, List.set_cons_succ]
  refine wpAnyH_take (i := 3) (oi := { dst := some 24, op := Op.binOp BinOp.add _ (Operand.const (Value.string { data := #[32] })) (Operand.tmp 23) _, type := _, pos := "ref.go:139", after := #[{ on := 2, ground := Ground.data }], guard := none }) (v := .string (⟨#[32]⟩ ++ X)) rfl (by kernel_rfl) (by kernel_rfl) (by kernel_rfl) (fun _ _ _ h => h) (Or.inl ⟨by rfl, ?_⟩) hHeld ?_
  · intro w' hSw
    skip
    go_simp
    all_goals omega
  try simp only [Act.put, List.setIfInBounds_toArray, List.set_cons_zero, List.set_cons_succ]
  refine wpAnyH_take (i := 4) (oi := { dst := some 25, op := Op.binOp BinOp.add _ (Operand.tmp 24) (Operand.const (Value.string { data := #[44, 32] })) _, type := _, pos := "ref.go:139", after := #[{ on := 3, ground := Ground.data }], guard := none }) (v := .string (⟨#[32]⟩ ++ X ++ ⟨#[44, 32]⟩)) rfl (by kernel_rfl) (by kernel_rfl) (by kernel_rfl) (fun _ _ _ h => h) (Or.inl ⟨by rfl, ?_⟩) hHeld ?_
  · intro w' hSw
    skip
    go_simp
    all_goals omega
  try simp only [Act.put, List.setIfInBounds_toArray, List.set_cons_zero, List.set_cons_succ]
  refine wpAnyH_ready (rs := [7]) (by kernel_rfl) (by simp) ?_
  refine AllReadyH.cons (o := { dst := some 28, op := Op.call { callee := Callee.value (Operand.func _), args := #[Operand.tmp 27], argTypes := _ }, type := _, pos := "ref.go:139", after := #[{ on := 6, ground := Ground.data }, { on := 2, ground := Ground.chain }], guard := none }) rfl (fun K hK => ?_) AllReadyH.nil
  go_simp
  go_at_call 44
  refine (HY.out _).mono ?_
  rintro e w7 ⟨rfl, rfl⟩
  refine hK.out _ _ hHeld (fun hHeld => ?_)
  clear hK K
  try simp only [Act.put, List.setIfInBounds_toArray, List.set_cons_zero, List.set_cons_succ]
  refine wpAnyH_take (i := 8) (oi := { dst := some 29, op := Op.binOp BinOp.add _ (Operand.tmp 25) (Operand.tmp 28) _, type := _, pos := "ref.go:139", after := #[{ on := 4, ground := Ground.data }, { on := 7, ground := Ground.data }], guard := none }) (v := .string (⟨#[32]⟩ ++ X ++ ⟨#[44, 32]⟩ ++ Y)) rfl (by kernel_rfl) (by kernel_rfl) (by kernel_rfl) (fun _ _ _ h => h) (Or.inl ⟨by rfl, ?_⟩) hHeld ?_
  · intro w' hSw
    skip
    go_simp
    all_goals omega
  try simp only [Act.put, List.setIfInBounds_toArray, List.set_cons_zero, List.set_cons_succ]
  refine wpAnyH_take (i := 9) (oi := { dst := some 6, op := Op.assign (Operand.tmp 29), type := _, pos := "ref.go:139", after := #[{ on := 8, ground := Ground.data }, { on := 7, ground := Ground.chain }, { on := 0, ground := Ground.phase }, { on := 1, ground := Ground.phase }, { on := 2, ground := Ground.phase }, { on := 3, ground := Ground.phase }, { on := 4, ground := Ground.phase }, { on := 5, ground := Ground.phase }, { on := 6, ground := Ground.phase }, { on := 7, ground := Ground.phase }, { on := 8, ground := Ground.phase }], guard := none }) (v := .string (⟨#[32]⟩ ++ X ++ ⟨#[44, 32]⟩ ++ Y)) rfl (by kernel_rfl) (by kernel_rfl) (by kernel_rfl) (fun _ _ _ h => h) (Or.inl ⟨by rfl, ?_⟩) hHeld ?_
  · intro w' hSw
    skip
    go_simp
  try simp only [Act.put, List.setIfInBounds_toArray, List.set_cons_zero, List.set_cons_succ]
  refine wpAnyH_done (by kernel_rfl) ?_ _
  go_wp2_with fail
  go_ret
  exact ⟨rfl, hHeld.below⟩

set_option maxHeartbeats 8000000 in
theorem rest2_c (A B : Array Value) (s r : SvR) (hA : SvAt A s) (hB : SvAt B r) (x : Nat → Int) (h : Bool) (y : Nat → Int) (g : Bool) (w : World) (hs : GsOk s x h w) (hr : GsOk r y g w) (hd : 0 < (diffJ x h y g 19).length) :
    Calls Tryd.prog 32 #[.int .i64 2, .agg A, .agg B] w fun e w' => e = .returned (.string (rsS x h y g ((diffJ x h y g 19).headD 0))) ∧ Below w.heap.size w w' := by
  have hzA : A.size = 35 := hA.size
  have hzB : B.size = 35 := hB.size
  have HAt := Lib.hid hA
  have HBt := Lib.hid hB
  have HI : Hid (PrS w A B ((w.alloc (.cells A 30)).alloc (.cells B 30))) :=
    Lib.hid ⟨heap_old' (heap_new' rfl), heap_new' (by simp), (below_alloc1 w _).alloc (by simp) _, by simp⟩
  obtain ⟨k, hk⟩ : ∃ k, (diffJ x h y g 19)[0]? = some k := ⟨_, List.getElem?_eq_getElem hd⟩
  have hk19 : k < 19 := by
    have := List.mem_of_getElem? hk
    unfold diffJ at this
    simpa using (List.mem_filter.1 this).1
  have hkD : (diffJ x h y g 19).headD 0 = k := by
    generalize diffJ x h y g 19 = D at hk
    cases D
    · simp at hk
    · simpa using hk
  rw [hkD]
  have HSt := Lib.hid fun W => refStates_c x h y g W
  have HNm := Lib.hid fun W => refName_c k hk19 W
  have HVA := Lib.hid fun W => refValue_c x h k hk19 W
  have HVB := Lib.hid fun W => refValue_c y g k hk19 W
  have hv : ∀ (x : Nat → Int) (h : Bool), (∀ k, 0 ≤ x k ∧ x k < 4294967296) → 0 ≤ valJ x h k ∧ valJ x h k < 4294967296 := fun x h hx => by
    unfold valJ
    split
    · exact hx k
    · split <;> omega
  have va := hv x h hs.x
  have vb := hv y g hr.x
  have HPr := Lib.hid fun W => pair_c (valJ x h k) (valJ y g k) ⟨by omega, by omega⟩ ⟨by omega, by omega⟩ W
  have zn : (⟨(nameJ k).toArray⟩ : ByteArray).size ≤ 22 := by have := nameJ_size k hk19; show ((nameJ k).toArray).size ≤ 22; simpa using this
  have zz := bothS_size (numS_size (valJ x h k) (by omega) (by omega)) (numS_size (valJ y g k) (by omega) (by omega))
  have zS : s.S.toList.length = 19 := by simpa using hs.ok.S
  have zR : r.S.toList.length = 19 := by simpa using hr.ok.S
  have HDk : Hid (((diffJ x h y g 19).map ixV)[0]? = some (.int .i64 (k : Int))) := Lib.hid (by rw [List.getElem?_map, hk]; rfl)
  unfold rsS
  rw [← hs.S, ← hr.S] at HSt
  rw [← hs.S] at HVA
  rw [← hr.S] at HVB
  generalize bothS (numS (valJ x h k)) (numS (valJ y g k)) = Z at HPr zz ⊢
  generalize valJ x h k = a at HVA HPr va
  generalize valJ y g k = c at HVB HPr vb
  generalize (⟨(nameJ k).toArray⟩ : ByteArray) = N at HNm zn ⊢
  generalize diffJ x h y g 19 = D at HSt HDk hd
  have wa : IntKind.i64.wrap a = a := IntWalk.i64_in _ (by omega)
  have wc : IntKind.i64.wrap c = c := IntWalk.i64_in _ (by omega)
  have z1 : ((⟨#[32]⟩ : ByteArray) ++ N).size ≤ 1 + 22 := sz_add (Nat.le_refl _) zn
  have z2 : ((⟨#[32]⟩ : ByteArray) ++ N ++ ⟨#[32]⟩).size ≤ 1 + 22 + 1 := sz_add z1 (Nat.le_refl _)
  have z3 : ((⟨#[32]⟩ : ByteArray) ++ N ++ ⟨#[32]⟩ ++ Z).size ≤ 1 + 22 + 1 + 42 := sz_add z2 zz
  have i1 : (0 : Int) < (D.length : Int) := by omega
  clear hA hB hs hr hv hk hkD
  go_enter Tryd.func32, Tryd.ntmps32
  go_wp2_with (first
    | ((with_reducible show wpList _ _ _ (Oper.mk _ (.load 26 _) _ _ _ _ :: _) _ _); refine wpList_load_mid rfl 26 _ rfl _ 2 rfl s.S.toList _ (range_of_row HI.out.a _ HAt.out.S) Tryd.underlying26 rfl (by rw [zS]; kernel_rfl) ?_; rw [Array.toArray_toList])
    | ((with_reducible show wpList _ _ _ (Oper.mk _ (.load 26 _) _ _ _ _ :: _) _ _); refine wpList_load_mid rfl 26 _ rfl _ 2 rfl r.S.toList _ (range_of_row HI.out.b _ HBt.out.S) Tryd.underlying26 rfl (by rw [zR]; kernel_rfl) ?_; rw [Array.toArray_toList]))
  refine (HSt.out _).mono ?_
  rintro e w1 ⟨v, rfl, ov, hb1⟩
  obtain ⟨ao, cap, rfl, hc⟩ := own_slice ov
  obtain ⟨g1, rfl, hg1, hc⟩ : ∃ g1, ao = some ⟨g1, 0, none⟩ ∧ g1 < w1.heap.size ∧ ∀ j, j < D.length * 1 → w1.cell? ⟨g1, j, none⟩ = (D.map ixV)[j]? := by
    rcases hc with h0 | h0
    · omega
    · exact h0
  have k0 := (hc 0 (by omega)).trans HDk.out
  replace HI := Lib.hid (HI.out.next hb1)
  clear ov hc HSt HDk hb1
  go_wp2_with fail
  refine wp_region_held_drew (S := fun w' => PrS w A B w') (by kernel_rfl) (HI.out.next (Below.refl _ _).drew) (fun hHeld => ?_)
  clear HI
  refine wpAnyH_take (i := 0) (oi := { dst := some 39, op := Op.move (Operand.tmp 7), type := _, pos := "ref.go:143", after := #[], guard := none }) (v := .int .i64 (k : Int)) rfl (by kernel_rfl) (by kernel_rfl) (by kernel_rfl) (fun _ _ _ h => h) (Or.inl ⟨by rfl, ?_⟩) hHeld ?_
  · intro w' hSw
    skip
    go_simp
  try simp only [Act.put, List.setIfInBounds_toArray, List.set_cons_zero, List.set_cons_succ]
  refine wpAnyH_take (i := 4) (oi := { dst := some 43, op := Op.fieldAddr _ (Operand.tmp 4) 2, type := _, pos := "ref.go:143", after := #[], guard := none }) (v := .pointer (some ⟨w.heap.size, 2, none⟩)) rfl (by kernel_rfl) (by kernel_rfl) (by kernel_rfl) (fun _ _ _ h => h) (Or.inl ⟨by rfl, ?_⟩) hHeld ?_
  · intro w' hSw
    skip
    go_simp
  try simp only [Act.put, List.setIfInBounds_toArray, List.set_cons_zero, List.set_cons_succ]
  refine wpAnyH_take (i := 5) (oi := { dst := some 44, op := Op.load _ (Operand.tmp 43), type := _, pos := "ref.go:143", after := #[{ on := 4, ground := Ground.data }], guard := none }) (v := .agg s.S) rfl (by kernel_rfl) (by kernel_rfl) (by kernel_rfl) (fun _ _ _ h => h) (yieldsIf_load_mid (by rfl) _ _ rfl _ 2 rfl s.S.toList _ (fun w' hSw => range_of_row hSw.a _ HAt.out.S) Tryd.underlying26 rfl (by rw [zS]; kernel_rfl)) hHeld ?_
  try simp only [Act.put, List.setIfInBounds_toArray, List.set_cons_zero, List.set_cons_succ]
  refine wpAnyH_take (i := 6) (oi := { dst := some 45, op := Op.move (Operand.tmp 7), type := _, pos := "ref.go:143", after := #[], guard := none }) (v := .int .i64 (k : Int)) rfl (by kernel_rfl) (by kernel_rfl) (by kernel_rfl) (fun _ _ _ h => h) (Or.inl ⟨by rfl, ?_⟩) hHeld ?_
  · intro w' hSw
    skip
    go_simp
  try simp only [Act.put, List.setIfInBounds_toArray, List.set_cons_zero, List.set_cons_succ]
  refine wpAnyH_take (i := 9) (oi := { dst := some 48, op := Op.fieldAddr _ (Operand.tmp 5) 2, type := _, pos := "ref.go:143", after := #[], guard := none }) (v := .pointer (some ⟨w.heap.size + 1, 2, none⟩)) rfl (by kernel_rfl) (by kernel_rfl) (by kernel_rfl) (fun _ _ _ h => h) (Or.inl ⟨by rfl, ?_⟩) hHeld ?_
  · intro w' hSw
    skip
    go_simp
  try simp only [Act.put, List.setIfInBounds_toArray, List.set_cons_zero, List.set_cons_succ]
  refine wpAnyH_take (i := 10) (oi := { dst := some 49, op := Op.load _ (Operand.tmp 48), type := _, pos := "ref.go:143", after := #[{ on := 9, ground := Ground.data }], guard := none }) (v := .agg r.S) rfl (by kernel_rfl) (by kernel_rfl) (by kernel_rfl) (fun _ _ _ h => h) (yieldsIf_load_mid (by rfl) _ _ rfl _ 2 rfl r.S.toList _ (fun w' hSw => range_of_row hSw.b _ HBt.out.S) Tryd.underlying26 rfl (by rw [zR]; kernel_rfl)) hHeld ?_
  try simp only [Act.put, List.setIfInBounds_toArray, List.set_cons_zero, List.set_cons_succ]
  refine wpAnyH_take (i := 11) (oi := { dst := some 50, op := Op.move (Operand.tmp 7), type := _, pos := "ref.go:143", after := #[], guard := none }) (v := .int .i64 (k : Int)) rfl (by kernel_rfl) (by kernel_rfl) (by kernel_rfl) (fun _ _ _ h => h) (Or.inl ⟨by rfl, ?_⟩) hHeld ?_
  · intro w' hSw
    skip
    go_simp
  try simp only [Act.put, List.setIfInBounds_toArray, List.set_cons_zero, List.set_cons_succ]
  refine wpAnyH_ready (rs := [1]) (by kernel_rfl) (by simp) ?_
  refine AllReadyH.cons (o := { dst := some 40, op := Op.call { callee := Callee.value (Operand.func _), args := #[Operand.tmp 39], argTypes := _ }, type := _, pos := "ref.go:143", after := #[{ on := 0, ground := Ground.data }], guard := none }) rfl (fun K hK => ?_) AllReadyH.nil
  go_simp
  go_at_call 18
  refine (HNm.out _).mono ?_
  rintro e w2 ⟨rfl, rfl⟩
  refine hK.out _ _ hHeld (fun hHeld => ?_)
  clear hK K
  try simp only [Act.put, List.setIfInBounds_toArray, List.set_cons_zero, List.set_cons_succ]
  refine wpAnyH_take (i := 2) (oi := { dst := some 41, op := Op.binOp BinOp.add _ (Operand.const (Value.string { data := #[32] })) (Operand.tmp 40) _, type := _, pos := "ref.go:143", after := #[{ on := 1, ground := Ground.data }], guard := none }) (v := .string (⟨#[32]⟩ ++ N)) rfl (by kernel_rfl) (by kernel_rfl) (by kernel_rfl) (fun _ _ _ h => h) (Or.inl ⟨by rfl, ?_⟩) hHeld ?_
  · intro w' hSw
    skip
    go_simp
    all_goals omega
  try simp only [Act.put, List.setIfInBounds_toArray, List.set_cons_zero, List.set_cons_succ]
  refine wpAnyH_take (i := 3) (oi := { dst := some 42, op := Op.binOp BinOp.add _ (Operand.tmp 41) (Operand.const (Value.string { data := #[32] })) _, type := _, pos := "ref.go:143", after := #[{ on := 2, ground := Ground.data }], guard := none }) (v := .string (⟨#[32]⟩ ++ N ++ ⟨#[32]⟩)) rfl (by kernel_rfl) (by kernel_rfl) (by kernel_rfl) (fun _ _ _ h => h) (Or.inl ⟨by rfl, ?_⟩) hHeld ?_
  · intro w' hSw
    skip
    go_simp
    all_goals omega
  try simp only [Act.put, List.setIfInBounds_toArray, List.set_cons_zero, List.set_cons_succ]
  refine wpAnyH_ready (rs := [7]) (by kernel_rfl) (by simp) ?_
  refine AllReadyH.cons (o := { dst := some 46, op := Op.call { callee := Callee.value (Operand.func _), args := #[Operand.tmp 44, Operand.tmp 45], argTypes := _ }, type := _, pos := "ref.go:143", after := #[{ on := 5, ground := Ground.data }, { on := 6, ground := Ground.data }, { on := 1, ground := Ground.chain }], guard := none }) rfl (fun K hK => ?_) AllReadyH.nil
  go_simp
  go_at_call 28
  refine (HVA.out _).mono ?_
  rintro e w7 ⟨rfl, hb7⟩
  refine hK.out _ _ (hHeld.next hb7) (fun hHeld => ?_)
  clear hK K
  try simp only [Act.put, List.setIfInBounds_toArray, List.set_cons_zero, List.set_cons_succ]
  refine wpAnyH_take (i := 8) (oi := { dst := some 47, op := Op.convert _ _ (Operand.tmp 46), type := _, pos := "ref.go:143", after := #[{ on := 7, ground := Ground.data }], guard := none }) (v := .int .i64 a) rfl (by kernel_rfl) (by kernel_rfl) (by kernel_rfl) (fun _ _ _ h => h) (Or.inl ⟨by rfl, ?_⟩) hHeld ?_
  · intro w' hSw
    skip
    go_simp
  try simp only [Act.put, List.setIfInBounds_toArray, List.set_cons_zero, List.set_cons_succ]
  refine wpAnyH_ready (rs := [12]) (by kernel_rfl) (by simp) ?_
  refine AllReadyH.cons (o := { dst := some 51, op := Op.call { callee := Callee.value (Operand.func _), args := #[Operand.tmp 49, Operand.tmp 50], argTypes := _ }, type := _, pos := "ref.go:143", after := #[{ on := 10, ground := Ground.data }, { on := 11, ground := Ground.data }, { on := 7, ground := Ground.chain }], guard := none }) rfl (fun K hK => ?_) AllReadyH.nil
  go_simp
  go_at_call 28
  refine (HVB.out _).mono ?_
  rintro e w12 ⟨rfl, hb12⟩
  refine hK.out _ _ (hHeld.next hb12) (fun hHeld => ?_)
  clear hK K
  try simp only [Act.put, List.setIfInBounds_toArray, List.set_cons_zero, List.set_cons_succ]
  refine wpAnyH_take (i := 13) (oi := { dst := some 52, op := Op.convert _ _ (Operand.tmp 51), type := _, pos := "ref.go:143", after := #[{ on := 12, ground := Ground.data }], guard := none }) (v := .int .i64 c) rfl (by kernel_rfl) (by kernel_rfl) (by kernel_rfl) (fun _ _ _ h => h) (Or.inl ⟨by rfl, ?_⟩) hHeld ?_
  · intro w' hSw
    skip
    go_simp
  try simp only [Act.put, List.setIfInBounds_toArray, List.set_cons_zero, List.set_cons_succ]
  refine wpAnyH_ready (rs := [14]) (by kernel_rfl) (by simp) ?_
  refine AllReadyH.cons (o := { dst := some 53, op := Op.call { callee := Callee.value (Operand.func _), args := #[Operand.tmp 47, Operand.tmp 52], argTypes := _ }, type := _, pos := "ref.go:143", after := #[{ on := 8, ground := Ground.data }, { on := 13, ground := Ground.data }, { on := 12, ground := Ground.chain }], guard := none }) rfl (fun K hK => ?_) AllReadyH.nil
  go_simp
  go_at_call 45
  refine (HPr.out _).mono ?_
  rintro e w14 ⟨rfl, rfl⟩
  refine hK.out _ _ hHeld (fun hHeld => ?_)
  clear hK K
  try simp only [Act.put, List.setIfInBounds_toArray, List.set_cons_zero, List.set_cons_succ]
  refine wpAnyH_take (i := 15) (oi := { dst := some 54, op := Op.binOp BinOp.add _ (Operand.tmp 42) (Operand.tmp 53) _, type := _, pos := "ref.go:143", after := #[{ on := 3, ground := Ground.data }, { on := 14, ground := Ground.data }], guard := none }) (v := .string (⟨#[32]⟩ ++ N ++ ⟨#[32]⟩ ++ Z)) rfl (by kernel_rfl) (by kernel_rfl) (by kernel_rfl) (fun _ _ _ h => h) (Or.inl ⟨by rfl, ?_⟩) hHeld ?_
  · intro w' hSw
    skip
    go_simp
    all_goals omega
  try simp only [Act.put, List.setIfInBounds_toArray, List.set_cons_zero, List.set_cons_succ]
  refine wpAnyH_take (i := 16) (oi := { dst := some 6, op := Op.assign (Operand.tmp 54), type := _, pos := "ref.go:143", after := #[{ on := 15, ground := Ground.data }, { on := 14, ground := Ground.chain }, { on := 0, ground := Ground.phase }, { on := 1, ground := Ground.phase }, { on := 2, ground := Ground.phase }, { on := 3, ground := Ground.phase }, { on := 4, ground := Ground.phase }, { on := 5, ground := Ground.phase }, { on := 6, ground := Ground.phase }, { on := 7, ground := Ground.phase }, { on := 8, ground := Ground.phase }, { on := 9, ground := Ground.phase }, { on := 10, ground := Ground.phase }, { on := 11, ground := Ground.phase }, { on := 12, ground := Ground.phase }, { on := 13, ground := Ground.phase }, { on := 14, ground := Ground.phase }, { on := 15, ground := Ground.phase }], guard := none }) (v := .string (⟨#[32]⟩ ++ N ++ ⟨#[32]⟩ ++ Z)) rfl (by kernel_rfl) (by kernel_rfl) (by kernel_rfl) (fun _ _ _ h => h) (Or.inl ⟨by rfl, ?_⟩) hHeld ?_
  · intro w' hSw
    skip
    go_simp
  try simp only [Act.put, List.setIfInBounds_toArray, List.set_cons_zero, List.set_cons_succ]
  refine wpAnyH_done (by kernel_rfl) ?_ _
  go_wp2_with fail
  go_ret
  exact ⟨rfl, hHeld.below⟩

set_option maxHeartbeats 8000000 in
theorem rest3_c (A B : Array Value) (s r : SvR) (hA : SvAt A s) (hB : SvAt B r) (x : Nat → Int) (h : Bool) (y : Nat → Int) (g : Bool) (w : World) (hs : GsOk s x h w) (hr : GsOk r y g w) (hd : 0 ≤ firstL s.mem.L r.mem.L) :
    Calls Tryd.prog 32 #[.int .i64 3, .agg A, .agg B] w fun e w' => e = .returned (.string (rbS (firstL s.mem.L r.mem.L).toNat s.mem.L r.mem.L)) ∧ Below w.heap.size w w' := by
  have hzA : A.size = 35 := hA.size
  have hzB : B.size = 35 := hB.size
  have HAt := Lib.hid hA
  have HBt := Lib.hid hB
  have HI : Hid (PrS w A B ((w.alloc (.cells A 30)).alloc (.cells B 30))) :=
    Lib.hid ⟨heap_old' (heap_new' rfl), heap_new' (by simp), (below_alloc1 w _).alloc (by simp) _, by simp⟩
  have HF := Lib.hid fun (W : World) (hb : Below w.heap.size w W) => rbytes_c s.mem.a r.mem.a s.mem.len s.mem.cap r.mem.len r.mem.cap s.mem.L r.mem.L (firstL s.mem.L r.mem.L).toNat (by omega) W (ByteArg.below hs.ok.mem hb) (ByteArg.below hr.ok.mem hb)
  generalize rbS (firstL s.mem.L r.mem.L).toNat s.mem.L r.mem.L = Z at HF ⊢
  clear hA hB hs hr hd
  have k1 := (cell_of_row _ _ 1 _ _ _ HI.out.a).trans HAt.out.mem
  have k2 := (cell_of_row _ _ 1 _ _ _ HI.out.b).trans HBt.out.mem
  go_enter Tryd.func32, Tryd.ntmps32
  go_wp2_with fail
  refine (HF.out _ HI.out.below).mono ?_
  rintro e w1 ⟨rfl, q, rfl⟩
  go_wp2_with fail
  go_ret
  exact ⟨rfl, below_drewN HI.out.below q⟩

set_option maxHeartbeats 8000000 in
theorem rest5_c (A B : Array Value) (s r : SvR) (hA : SvAt A s) (hB : SvAt B r) (x : Nat → Int) (h : Bool) (y : Nat → Int) (g : Bool) (w : World) (hs : GsOk s x h w) (hr : GsOk r y g w) (hd : 0 ≤ firstL s.out.L r.out.L) :
    Calls Tryd.prog 32 #[.int .i64 5, .agg A, .agg B] w fun e w' => e = .returned (.string (rbS (firstL s.out.L r.out.L).toNat s.out.L r.out.L)) ∧ Below w.heap.size w w' := by
  have hzA : A.size = 35 := hA.size
  have hzB : B.size = 35 := hB.size
  have HAt := Lib.hid hA
  have HBt := Lib.hid hB
  have HI : Hid (PrS w A B ((w.alloc (.cells A 30)).alloc (.cells B 30))) :=
    Lib.hid ⟨heap_old' (heap_new' rfl), heap_new' (by simp), (below_alloc1 w _).alloc (by simp) _, by simp⟩
  have HF := Lib.hid fun (W : World) (hb : Below w.heap.size w W) => rbytes_c s.out.a r.out.a s.out.len s.out.cap r.out.len r.out.cap s.out.L r.out.L (firstL s.out.L r.out.L).toNat (by omega) W (ByteArg.below hs.ok.out hb) (ByteArg.below hr.ok.out hb)
  generalize rbS (firstL s.out.L r.out.L).toNat s.out.L r.out.L = Z at HF ⊢
  clear hA hB hs hr hd
  have k1 := (cell_of_row _ _ 23 _ _ _ HI.out.a).trans HAt.out.out
  have k2 := (cell_of_row _ _ 23 _ _ _ HI.out.b).trans HBt.out.out
  go_enter Tryd.func32, Tryd.ntmps32
  go_wp2_with fail
  refine (HF.out _ HI.out.below).mono ?_
  rintro e w1 ⟨rfl, q, rfl⟩
  go_wp2_with fail
  go_ret
  exact ⟨rfl, below_drewN HI.out.below q⟩

set_option maxHeartbeats 8000000 in
theorem rest6_c (A B : Array Value) (s r : SvR) (hA : SvAt A s) (hB : SvAt B r) (x : Nat → Int) (h : Bool) (y : Nat → Int) (g : Bool) (w : World) (hs : GsOk s x h w) (hr : GsOk r y g w) (hd : 0 ≤ firstL s.disk.L r.disk.L) :
    Calls Tryd.prog 32 #[.int .i64 6, .agg A, .agg B] w fun e w' => e = .returned (.string (rbS (firstL s.disk.L r.disk.L).toNat s.disk.L r.disk.L)) ∧ Below w.heap.size w w' := by
  have hzA : A.size = 35 := hA.size
  have hzB : B.size = 35 := hB.size
  have HAt := Lib.hid hA
  have HBt := Lib.hid hB
  have HI : Hid (PrS w A B ((w.alloc (.cells A 30)).alloc (.cells B 30))) :=
    Lib.hid ⟨heap_old' (heap_new' rfl), heap_new' (by simp), (below_alloc1 w _).alloc (by simp) _, by simp⟩
  have HF := Lib.hid fun (W : World) (hb : Below w.heap.size w W) => rbytes_c s.disk.a r.disk.a s.disk.len s.disk.cap r.disk.len r.disk.cap s.disk.L r.disk.L (firstL s.disk.L r.disk.L).toNat (by omega) W (ByteArg.below hs.ok.disk hb) (ByteArg.below hr.ok.disk hb)
  generalize rbS (firstL s.disk.L r.disk.L).toNat s.disk.L r.disk.L = Z at HF ⊢
  clear hA hB hs hr hd
  have k1 := (cell_of_row _ _ 24 _ _ _ HI.out.a).trans HAt.out.disk
  have k2 := (cell_of_row _ _ 24 _ _ _ HI.out.b).trans HBt.out.disk
  go_enter Tryd.func32, Tryd.ntmps32
  go_wp2_with fail
  refine (HF.out _ HI.out.below).mono ?_
  rintro e w1 ⟨rfl, q, rfl⟩
  go_wp2_with fail
  go_ret
  exact ⟨rfl, below_drewN HI.out.below q⟩

set_option maxHeartbeats 8000000 in
theorem rest7_c (A B : Array Value) (s r : SvR) (hA : SvAt A s) (hB : SvAt B r) (x : Nat → Int) (h : Bool) (y : Nat → Int) (g : Bool) (w : World) (hs : GsOk s x h w) (hr : GsOk r y g w) (hd : 0 ≤ firstL s.queue.L r.queue.L) :
    Calls Tryd.prog 32 #[.int .i64 7, .agg A, .agg B] w fun e w' => e = .returned (.string (rbS (firstL s.queue.L r.queue.L).toNat s.queue.L r.queue.L)) ∧ Below w.heap.size w w' := by
  have hzA : A.size = 35 := hA.size
  have hzB : B.size = 35 := hB.size
  have HAt := Lib.hid hA
  have HBt := Lib.hid hB
  have HI : Hid (PrS w A B ((w.alloc (.cells A 30)).alloc (.cells B 30))) :=
    Lib.hid ⟨heap_old' (heap_new' rfl), heap_new' (by simp), (below_alloc1 w _).alloc (by simp) _, by simp⟩
  have HF := Lib.hid fun (W : World) (hb : Below w.heap.size w W) => rbytes_c s.queue.a r.queue.a s.queue.len s.queue.cap r.queue.len r.queue.cap s.queue.L r.queue.L (firstL s.queue.L r.queue.L).toNat (by omega) W (ByteArg.below hs.ok.queue hb) (ByteArg.below hr.ok.queue hb)
  generalize rbS (firstL s.queue.L r.queue.L).toNat s.queue.L r.queue.L = Z at HF ⊢
  clear hA hB hs hr hd
  have k1 := (cell_of_row _ _ 25 _ _ _ HI.out.a).trans HAt.out.queue
  have k2 := (cell_of_row _ _ 25 _ _ _ HI.out.b).trans HBt.out.queue
  go_enter Tryd.func32, Tryd.ntmps32
  go_wp2_with fail
  refine (HF.out _ HI.out.below).mono ?_
  rintro e w1 ⟨rfl, q, rfl⟩
  go_wp2_with fail
  go_ret
  exact ⟨rfl, below_drewN HI.out.below q⟩

set_option maxHeartbeats 8000000 in
theorem rest4_c (A B : Array Value) (s r : SvR) (hA : SvAt A s) (hB : SvAt B r) (x : Nat → Int) (h : Bool) (y : Nat → Int) (g : Bool) (w : World) (hs : GsOk s x h w) (hr : GsOk r y g w) (hd : 0 ≤ firstE s.notes.L r.notes.L) :
    Calls Tryd.prog 32 #[.int .i64 4, .agg A, .agg B] w fun e w' => e = .returned (.string (rlS (firstE s.notes.L r.notes.L))) ∧ Below w.heap.size w w' := by
  have hzA : A.size = 35 := hA.size
  have hzB : B.size = 35 := hB.size
  have HAt := Lib.hid hA
  have HBt := Lib.hid hB
  have HI : Hid (PrS w A B ((w.alloc (.cells A 30)).alloc (.cells B 30))) :=
    Lib.hid ⟨heap_old' (heap_new' rfl), heap_new' (by simp), (below_alloc1 w _).alloc (by simp) _, by simp⟩
  have HF := Lib.hid fun (W : World) (hb : Below w.heap.size w W) => refNotes_c _ _ _ _ _ _ _ _ W (ElemArg.below hs.ok.notes hb) (ElemArg.below hr.ok.notes hb)
  have hlt : firstE s.notes.L r.notes.L < 9223372036854775808 := by
    have h1 := (firstE_bd s.notes.L r.notes.L).2
    have e1 : s.notes.L.length = s.notes.len := hs.ok.notes.1
    have e2 : r.notes.L.length = r.notes.len := hr.ok.notes.1
    have := hs.ok.notes.2.1; have := hs.ok.notes.2.2.1; have := hr.ok.notes.2.1; have := hr.ok.notes.2.2.1
    omega
  have HD := Lib.hid fun W => decimal_c (firstE s.notes.L r.notes.L) (by omega) (by omega) W
  have zx := numS_size (firstE s.notes.L r.notes.L) (by omega) (by omega)
  unfold rlS
  have en : numS (firstE s.notes.L r.notes.L) = ⟨(Lib.itoa (firstE s.notes.L r.notes.L)).toArray⟩ := rfl
  rw [← en] at HD
  clear en
  generalize numS (firstE s.notes.L r.notes.L) = X at HD zx ⊢
  generalize firstE s.notes.L r.notes.L = n at HF HD hd hlt
  have z1 : ((⟨#[32, 97, 116, 32]⟩ : ByteArray) ++ X).size ≤ 4 + 20 := sz_add (Nat.le_refl _) zx
  clear hA hB hs hr
  have k1 := (cell_of_row _ _ 22 _ _ _ HI.out.a).trans HAt.out.notes
  have k2 := (cell_of_row _ _ 22 _ _ _ HI.out.b).trans HBt.out.notes
  go_enter Tryd.func32, Tryd.ntmps32
  go_wp2_with fail
  refine (HF.out _ HI.out.below).mono ?_
  rintro e w1 ⟨rfl, q, rfl⟩
  go_wp2_with fail
  refine (HD.out _).mono ?_
  rintro e w2 ⟨rfl, rfl⟩
  go_wp2_with fail
  go_ret
  exact ⟨rfl, below_drewN HI.out.below q⟩

set_option maxHeartbeats 8000000 in
theorem rest8_c (A B : Array Value) (s r : SvR) (hA : SvAt A s) (hB : SvAt B r) (x : Nat → Int) (h : Bool) (y : Nat → Int) (g : Bool) (w : World) (hs : GsOk s x h w) (hr : GsOk r y g w) (hd : 0 ≤ firstE s.script.L r.script.L) :
    Calls Tryd.prog 32 #[.int .i64 8, .agg A, .agg B] w fun e w' => e = .returned (.string (rlS (firstE s.script.L r.script.L))) ∧ Below w.heap.size w w' := by
  have hzA : A.size = 35 := hA.size
  have hzB : B.size = 35 := hB.size
  have HAt := Lib.hid hA
  have HBt := Lib.hid hB
  have HI : Hid (PrS w A B ((w.alloc (.cells A 30)).alloc (.cells B 30))) :=
    Lib.hid ⟨heap_old' (heap_new' rfl), heap_new' (by simp), (below_alloc1 w _).alloc (by simp) _, by simp⟩
  have HF := Lib.hid fun (W : World) (hb : Below w.heap.size w W) => refEvents_c _ _ _ _ _ _ _ _ W (ElemArg.below hs.ok.script hb) (ElemArg.below hr.ok.script hb)
  have hlt : firstE s.script.L r.script.L < 9223372036854775808 := by
    have h1 := (firstE_bd s.script.L r.script.L).2
    have e1 : s.script.L.length = s.script.len := hs.ok.script.1
    have e2 : r.script.L.length = r.script.len := hr.ok.script.1
    have := hs.ok.script.2.1; have := hs.ok.script.2.2.1; have := hr.ok.script.2.1; have := hr.ok.script.2.2.1
    omega
  have HD := Lib.hid fun W => decimal_c (firstE s.script.L r.script.L) (by omega) (by omega) W
  have zx := numS_size (firstE s.script.L r.script.L) (by omega) (by omega)
  unfold rlS
  have en : numS (firstE s.script.L r.script.L) = ⟨(Lib.itoa (firstE s.script.L r.script.L)).toArray⟩ := rfl
  rw [← en] at HD
  clear en
  generalize numS (firstE s.script.L r.script.L) = X at HD zx ⊢
  generalize firstE s.script.L r.script.L = n at HF HD hd hlt
  have z1 : ((⟨#[32, 97, 116, 32]⟩ : ByteArray) ++ X).size ≤ 4 + 20 := sz_add (Nat.le_refl _) zx
  clear hA hB hs hr
  have k1 := (cell_of_row _ _ 26 _ _ _ HI.out.a).trans HAt.out.script
  have k2 := (cell_of_row _ _ 26 _ _ _ HI.out.b).trans HBt.out.script
  go_enter Tryd.func32, Tryd.ntmps32
  go_wp2_with fail
  refine (HF.out _ HI.out.below).mono ?_
  rintro e w1 ⟨rfl, q, rfl⟩
  go_wp2_with fail
  refine (HD.out _).mono ?_
  rintro e w2 ⟨rfl, rfl⟩
  go_wp2_with fail
  go_ret
  exact ⟨rfl, below_drewN HI.out.below q⟩

set_option maxHeartbeats 8000000 in
theorem rest9_c (A B : Array Value) (s r : SvR) (hA : SvAt A s) (hB : SvAt B r) (x : Nat → Int) (h : Bool) (y : Nat → Int) (g : Bool) (w : World) (hs : GsOk s x h w) (hr : GsOk r y g w) :
    Calls Tryd.prog 32 #[.int .i64 9, .agg A, .agg B] w fun e w' => e = .returned (.string (⟨#[]⟩)) ∧ Below w.heap.size w w' := by
  have hzA : A.size = 35 := hA.size
  have hzB : B.size = 35 := hB.size
  have HAt := Lib.hid hA
  have HBt := Lib.hid hB
  have HI : Hid (PrS w A B ((w.alloc (.cells A 30)).alloc (.cells B 30))) :=
    Lib.hid ⟨heap_old' (heap_new' rfl), heap_new' (by simp), (below_alloc1 w _).alloc (by simp) _, by simp⟩
  clear hA hB hs hr
  go_enter Tryd.func32, Tryd.ntmps32
  go_wp2_with fail
  go_ret
  exact ⟨rfl, HI.out.below⟩

theorem rest_c (A B : Array Value) (s r : SvR) (hA : SvAt A s) (hB : SvAt B r) (x : Nat → Int) (h : Bool) (y : Nat → Int) (g : Bool) (w : World) (hs : GsOk s x h w) (hr : GsOk r y g w) (k : Nat) (hd : (dlJ s r x h y g)[k]? = some true) :
    Calls Tryd.prog 32 #[.int .i64 (k : Int), .agg A, .agg B] w fun e w' => (∃ t, (restsJ s r x h y g)[k]? = some t ∧ e = .returned (.string t)) ∧ Below w.heap.size w w' := by
  have hk : k < 10 := (List.getElem?_eq_some_iff.1 hd).1
  have up : ∀ (t : ByteArray) (P : (Ending → World → Prop) → Prop), (restsJ s r x h y g)[k]? = some t → Calls Tryd.prog 32 #[.int .i64 (k : Int), .agg A, .agg B] w (fun e w' => e = .returned (.string t) ∧ Below w.heap.size w w') →
      Calls Tryd.prog 32 #[.int .i64 (k : Int), .agg A, .agg B] w fun e w' => (∃ t, (restsJ s r x h y g)[k]? = some t ∧ e = .returned (.string t)) ∧ Below w.heap.size w w' := fun t _ ht H =>
    H.mono fun e w' ⟨h1, h2⟩ => ⟨⟨t, ht, h1⟩, h2⟩
  rcases (by omega : k = 0 ∨ k = 1 ∨ k = 2 ∨ k = 3 ∨ k = 4 ∨ k = 5 ∨ k = 6 ∨ k = 7 ∨ k = 8 ∨ k = 9) with rfl | rfl | rfl | rfl | rfl | rfl | rfl | rfl | rfl | rfl
  · exact up _ (fun _ => True) rfl (rest0_c A B s r hA hB x h y g w hs hr)
  · exact up _ (fun _ => True) rfl (rest1_c A B s r hA hB x h y g w hs hr)
  · exact up _ (fun _ => True) rfl (rest2_c A B s r hA hB x h y g w hs hr (by simpa [dlJ] using hd))
  · exact up _ (fun _ => True) rfl (rest3_c A B s r hA hB x h y g w hs hr (by simpa [dlJ] using hd))
  · exact up _ (fun _ => True) rfl (rest4_c A B s r hA hB x h y g w hs hr (by simpa [dlJ] using hd))
  · exact up _ (fun _ => True) rfl (rest5_c A B s r hA hB x h y g w hs hr (by simpa [dlJ] using hd))
  · exact up _ (fun _ => True) rfl (rest6_c A B s r hA hB x h y g w hs hr (by simpa [dlJ] using hd))
  · exact up _ (fun _ => True) rfl (rest7_c A B s r hA hB x h y g w hs hr (by simpa [dlJ] using hd))
  · exact up _ (fun _ => True) rfl (rest8_c A B s r hA hB x h y g w hs hr (by simpa [dlJ] using hd))
  · exact up _ (fun _ => True) rfl (rest9_c A B s r hA hB x h y g w hs hr)
end Go.Proofs.YtjnakhejdpkfnaaDoor
