/- judge.apart: of two states the parts that differ. (Written by mkJS.py.) -/
import Derived.Test.YtjnakhejdpkfnaaDoorJudR
import Derived.Deep.RegionHeld3
import Derived.RangeFuncBox
namespace Go.Proofs.YtjnakhejdpkfnaaDoor
open Go.RowKit
set_option linter.unusedSimpArgs false
set_option linter.unusedVariables false
set_option maxRecDepth 100000

/-- The parts in which they differ. -/
def diffJ (x : Nat → Int) (h : Bool) (y : Nat → Int) (g : Bool) (n : Nat) : List Nat := (List.range n).filter fun k => valJ x h k != valJ y g k
theorem diffJ_succ (x : Nat → Int) (h : Bool) (y : Nat → Int) (g : Bool) (n : Nat) : diffJ x h y g (n + 1) = diffJ x h y g n ++ if (valJ x h n != valJ y g n) = true then [n] else [] := by
  unfold diffJ; rw [List.range_succ, List.filter_append]; simp [List.filter_cons]
theorem diffJ_len (x : Nat → Int) (h : Bool) (y : Nat → Int) (g : Bool) (n : Nat) : (diffJ x h y g n).length ≤ n := by
  unfold diffJ; exact Nat.le_trans (List.length_filter_le _ _) (by simp)
theorem valsJ_at (x : Nat → Int) (h : Bool) : ∀ (n : Nat) {k : Nat}, k < n → (valsJ x h n)[k * 2]? = some (.string ⟨(nameJ k).toArray⟩) ∧ (valsJ x h n)[k * 2 + 1]? = some (.int .u32 (valJ x h k))
  | 0, k, hk => absurd hk (Nat.not_lt_zero _)
  | n + 1, k, hk => by
    have hl : ∀ m, (valsJ x h m).length = m * 2 := fun m => by
      induction m with
      | zero => rfl
      | succ m ih => rw [valsJ_succ, List.length_append, ih]; simp [entJ]; omega
    rw [valsJ_succ]
    by_cases c : k < n
    · obtain ⟨h1, h2⟩ := valsJ_at x h n c
      rw [List.getElem?_append_left (by rw [hl]; omega), List.getElem?_append_left (by rw [hl]; omega)]
      exact ⟨h1, h2⟩
    · obtain rfl : k = n := by omega
      rw [List.getElem?_append_right (by rw [hl]; omega), List.getElem?_append_right (by rw [hl]; omega), hl, Nat.sub_self, show k * 2 + 1 - k * 2 = 1 from by omega]
      exact ⟨rfl, rfl⟩

/-- The rows of the two states. -/
structure ApS (w : World) (A B : Array Value) (w' : World) : Prop where
  a : w'.heap[w.heap.size]? = some (.cells A 26 (0, 0))
  b : w'.heap[w.heap.size + 1]? = some (.cells B 26 (0, 0))
  below : Below w.heap.size w w'
  size : w.heap.size + 1 < w'.heap.size
theorem ApS.next {w w1 w2 : World} {A B : Array Value} (h : ApS w A B w1) (hb : Below w1.heap.size w1 w2) : ApS w A B w2 :=
  have hs := h.size
  ⟨(hb.block _ (by omega)).trans h.a, (hb.block _ (by omega)).trans h.b, h.below.trans (hb.mono (by omega)), Nat.lt_of_lt_of_le h.size hb.size⟩
theorem yields_stJ {ops : Array Oper} {Sp : World → Prop} {op : Oper} {a : Act} (hw : Region.wanted op (yielded ops a.tmps) = true) (x : Operand) (ho : op.op = .load 26 x)
    (b : Nat) (hx : a.eval x = .pointer (some ⟨b, 0, none⟩)) (cs : Array Value) (hs : cs.size = 19) (hS : ∀ w, Sp w → w.heap[b]? = some (.cells cs 26 (0, 0))) : YieldsIf Tryd.prog ops Sp op (.agg cs) a :=
  yieldsIf_load_mid hw 26 x ho b 0 hx cs.toList _ (fun w h => range_of_row (hS w h) _ (fun j v hv => by simpa using hv)) Tryd.underlying26 rfl (by rw [Array.length_toList, hs]; kernel_rfl)

theorem own_other {w w' : World} {base n size : Nat} {e : TypeId} {v v2 : Value} {xs : List Value} (h : w.ownsRow base e size v n xs) (gr : w.grownBy w' v2.ownBlock) (hd : ∀ g, v2.ownBlock = some g → v.ownBlock = some g → False) : w'.ownsRow base e size v n xs := by
  refine ⟨h.1, ?_⟩
  rcases h.2 with h | ⟨g, cap, cur, h1, h2, h3, h4⟩
  · exact .inl h
  · refine .inr ⟨g, cap, cur, h1, h2, (gr.block _ (lt_of_rowJ h3) (fun e => hd g e.symm (by rw [h1]; rfl))).trans h3, h4⟩
theorem own_lt {w : World} {base n size : Nat} {e : TypeId} {v : Value} {xs : List Value} (h : w.ownsRow base e size v n xs) : ∀ g, v.ownBlock = some g → g < w.heap.size := by
  intro g hg
  rcases h.2 with ⟨h1, _⟩ | ⟨g', cap, cur, h1, h2, h3, _⟩
  · rw [h1] at hg; cases hg
  · rw [h1] at hg; cases hg; exact lt_of_rowJ h3
theorem own_geJ {w : World} {base n size : Nat} {e : TypeId} {v : Value} {xs : List Value} (h : w.ownsRow base e size v n xs) : ∀ k, v.ownBlock = some k → base ≤ k := by
  intro k hk
  rcases h.2 with ⟨h1, _⟩ | ⟨g, cap, cur, h1, h2, _⟩
  · rw [h1] at hk; cases hk
  · rw [h1] at hk; cases hk; exact h2
theorem news_grown {w w' : World} {r : Option Nat} {b j : Nat} {u : Value} (gr : w.grownBy w' r) (hF : ∀ g, r = some g → g = b → False) (h : w.cell? ((⟨b, 0, none⟩ : Addr).add j) = some u) : w'.cell? ((⟨b, 0, none⟩ : Addr).add j) = some u := by
  have e : (⟨b, 0, none⟩ : Addr).add j = ⟨b, j, none⟩ := by unfold Addr.add; split <;> simp_all
  rw [e] at h ⊢
  exact (World.cell?_of_block (w := w) (gr.block b (World.block_lt_of_cell? w _ h) (fun e => hF b e.symm rfl))).trans h
def News (w : World) (b : Nat) (xs : List Value) : Prop := ∀ j u, xs[j]? = some u → w.cell? ((⟨b, 0, none⟩ : Addr).add j) = some u
theorem News.alloc {w : World} {b : Nat} {xs : List Value} (N : News w b xs) (o : Obj) : News (w.alloc o) b xs := fun j u hu => by
  have h := N j u hu
  have e : (⟨b, 0, none⟩ : Addr).add j = ⟨b, j, none⟩ := by unfold Addr.add; split <;> simp_all
  rw [e] at h ⊢
  exact ((below_alloc1 w o).cell (World.block_lt_of_cell? w _ h)).trans h
theorem News.grow {w w' : World} {r : Option Nat} {b : Nat} {xs : List Value} (N : News w b xs) (gr : w.grownBy w' r) (hF : ∀ g, r = some g → g = b → False) : News w' b xs := fun j u hu => news_grown gr hF (N j u hu)
def Dis (v u : Value) : Prop := ∀ g, v.ownBlock = some g → u.ownBlock = some g → False
theorem Dis.symm {v u : Value} (h : Dis v u) : Dis u v := fun g a b => h g b a
theorem two_left {w w' : World} {base m size : Nat} {e : TypeId} {v v' u : Value} {ys : List Value} (hu : w.ownsRow base e size u m ys) (hd : Dis v u) (gr : w.grownBy w' v.ownBlock) (hv : v'.ownBlock = v.ownBlock ∨ v'.ownBlock = some w.heap.size) :
    w'.ownsRow base e size u m ys ∧ Dis v' u := by
  refine ⟨own_other hu gr hd, fun g a b => ?_⟩
  rcases hv with hv | hv
  · exact hd g (hv ▸ a) b
  · rw [hv] at a; cases a
    exact absurd (own_lt hu _ b) (Nat.lt_irrefl _)

theorem wp_append_at {P : Program} {o : Oper} {a : Act} {K : Act → World → Prop} {Q : Exit → Act → World → Prop} (w : World) (s x : Operand) (t : TypeId)
    (ho : o.op = .call { callee := .builtin .append, args := #[s, x], argTypes := #[t, t] })
    (base : Nat) (e : TypeId) (i : TypeInfo) (z : Value) (size bytes : Nat) (ht : P.underlying t = some (.slice e)) (hi : P.info? e = some i) (hz : i.zero = some z)
    (hsize : i.size = size) (hby : i.bytes = bytes) (hzs : z.cells.size = size) (hsz : 0 < size)
    (v : Value) (n : Nat) (xs : List Value) (hs : a.eval s = v) (hown : w.ownsRow base e size v n xs)
    (ad : Addr) (m c : Nat) (news : List Value) (hx : a.eval x = .slice (some ad) m c) (hl : news.length = m * size) (hnews : ∀ j u, news[j]? = some u → w.cell? (ad.add j) = some u) (h1 : ∀ u ∈ news, u.oneCell' = true)
    (h63 : n + m ≤ maxLen) (hbytes : (n + m) * bytes ≤ 140737488355328) (hbase : base ≤ w.heap.size)
    (h : ∀ v' w', w'.ownsRow base e size v' (n + m) (xs ++ news) → w.grownBy w' v.ownBlock → (v'.ownBlock = v.ownBlock ∨ v'.ownBlock = some w.heap.size) → K (a.put o.dst v') w') : o.wp P a w K Q := by
  obtain ⟨v', w', hr, h2, h3, h4, h5⟩ := run_append_own_at (P := P) w base t o.type e i z size bytes ht hi hz hsize hby hzs hsz v n xs hown ad m c news hl hnews h1 h63 hbytes hbase
  unfold Oper.wp execOp
  simp only [ho, resolve, invoke, builtin, Sem.run_bind, Sem.run_pure, Result.andThen_ok, List.map_toArray, List.map_cons, List.map_nil, hs, hx, hr]
  exact h v' w' h2 h3 h5

theorem neqV (s : ByteArray) (p q : Int) (hp : 0 ≤ p ∧ p < 4294967296) (hq : 0 ≤ q ∧ q < 4294967296) (W : World) : (binOp .neq 56 (.agg #[.string s, .int .u32 p]) (.agg #[.string s, .int .u32 q])).run Tryd.prog W = .ok (.bool (p != q)) W := by
  go_simp
  by_cases e : p = q <;> simp [e]

/-- What stays in a round: the rows of values. -/
structure ApR (Wz : World) (gx gy : Nat) (X Y : List Value) (w' : World) : Prop where
  x : ∀ j, j < 38 → w'.cell? ⟨gx, j, none⟩ = X[j]?
  y : ∀ j, j < 38 → w'.cell? ⟨gy, j, none⟩ = Y[j]?
  below : Below Wz.heap.size Wz w'
  gx : gx < Wz.heap.size
  gy : gy < Wz.heap.size
theorem ApR.next {Wz w1 w2 : World} {gx gy : Nat} {X Y : List Value} (h : ApR Wz gx gy X Y w1) (hb : Below Wz.heap.size w1 w2) : ApR Wz gx gy X Y w2 :=
  ⟨fun j hj => (hb.cell (p := ⟨gx, j, none⟩) h.gx).trans (h.x j hj), fun j hj => (hb.cell (p := ⟨gy, j, none⟩) h.gy).trans (h.y j hj), h.below.trans hb, h.gx, h.gy⟩

set_option maxHeartbeats 16000000 in
theorem apart_c (x : Nat → Int) (h : Bool) (y : Nat → Int) (g : Bool) (hx : ∀ k, 0 ≤ x k ∧ x k < 4294967296) (hy : ∀ k, 0 ≤ y k ∧ y k < 4294967296) (w : World) (HT : Hid (pTab w)) :
    Calls Tryd.prog 27 #[.agg (stJ x h), .agg (stJ y g)] w fun e w' => ∃ v u, e = .returned (.tuple #[v, u]) ∧ w'.ownsRow w.heap.size 56 2 v (diffJ x h y g 19).length ((diffJ x h y g 19).flatMap (entJ x h)) ∧
      w'.ownsRow w.heap.size 56 2 u (diffJ x h y g 19).length ((diffJ x h y g 19).flatMap (entJ y g)) ∧ Below w.heap.size w w' := by
  have okS : ∀ (x : Nat → Int) (h : Bool), (∀ k, 0 ≤ x k ∧ x k < 4294967296) → okAll stKJ (stJ x h).toList := fun x h hx => by
    have c : ∀ k, CK.ok (.i .u32) (.int .u32 (x k)) := fun k => ⟨x k, rfl, wf_u32J (hx k).1 (hx k).2⟩
    exact ⟨c 0, c 1, c 2, c 3, c 4, c 5, c 6, c 7, c 8, c 9, c 10, c 11, c 12, c 13, c 14, c 15, c 16, c 17, ⟨h, rfl⟩, trivial⟩
  by_cases hEq : stJ x h = stJ y g
  · have hd : diffJ x h y g 19 = [] := by
      have hv : ∀ k, k < 19 → valJ x h k = valJ y g k := by
        intro k hk
        simp only [stJ, Array.mk.injEq, List.cons.injEq, Value.int.injEq, Value.bool.injEq, true_and, and_true] at hEq
        unfold valJ
        rcases (by omega : k = 0 ∨ k = 1 ∨ k = 2 ∨ k = 3 ∨ k = 4 ∨ k = 5 ∨ k = 6 ∨ k = 7 ∨ k = 8 ∨ k = 9 ∨ k = 10 ∨ k = 11 ∨ k = 12 ∨ k = 13 ∨ k = 14 ∨ k = 15 ∨ k = 16 ∨ k = 17 ∨ k = 18) with rfl | rfl | rfl | rfl | rfl | rfl | rfl | rfl | rfl | rfl | rfl | rfl | rfl | rfl | rfl | rfl | rfl | rfl | rfl <;> simp [hEq]
      unfold diffJ
      rw [List.filter_eq_nil_iff]
      intro k hk
      simp [hv k (List.mem_range.1 hk)]
    rw [hd, ← hEq]
    refine (apartEq_c (stJ x h) rfl (okS x h hx) w).mono ?_
    rintro e w' ⟨rfl, hb⟩
    exact ⟨_, _, rfl, ⟨rfl, .inl ⟨rfl, rfl⟩⟩, ⟨rfl, .inl ⟨rfl, rfl⟩⟩, hb⟩
  obtain ⟨r, heq, -, hiff⟩ := run_eql_flat (P := Tryd.prog) (n := 4) (t := 26) (ks := stKJ) (by decide) (by kernel_rfl) (by kernel_rfl) (by kernel_rfl) (by kernel_rfl) (okS x h hx) (okS y g hy)
  obtain rfl : r = false := by
    cases r
    · rfl
    · exact absurd (Array.toList_inj.1 (hiff.1 rfl)) hEq
  have HX := Lib.hid fun (W : World) (hb : Below w.heap.size w W) => values_c x h W (pTab_on HT hb)
  have HY := Lib.hid fun (W : World) (hb : Below w.heap.size w W) => values_c y g W (pTab_on HT hb)
  obtain ⟨A, hA⟩ : ∃ A, A = stJ x h := ⟨_, rfl⟩
  obtain ⟨B, hB⟩ : ∃ B, B = stJ y g := ⟨_, rfl⟩
  have hzA : A.size = 19 := by rw [hA]; rfl
  have hzB : B.size = 19 := by rw [hB]; rfl
  simp only [show (stJ x h).toList.toArray = stJ x h from rfl, show (stJ y g).toList.toArray = stJ y g from rfl] at heq
  rw [← hA] at heq HX ⊢
  rw [← hB] at heq HY ⊢
  have Z1 := Lib.hid hzA
  have Z2 := Lib.hid hzB
  have hxb := Lib.hid hx
  have hyb := Lib.hid hy
  clear hA hB hiff hEq okS hx hy
  obtain ⟨i0, hi, hz0, hz1, hz2⟩ := info_parts Tryd.infoV
  go_enter Tryd.func27, Tryd.ntmps27
  go_wp2_with (first
    | ((with_reducible show wpList _ _ _ (Oper.mk _ (.load 26 _) _ _ _ _ :: _) _ _); refine wpList_load_row rfl 26 _ rfl _ rfl 26 _ (0, 0) _ (by first | (refine heap_new' ?_; simp; done) | (refine heap_old' (heap_new' ?_); simp; done)) Tryd.underlying26 rfl (by first | (rw [Z1.out]; kernel_rfl) | (rw [Z2.out]; kernel_rfl)) ?_))
  have HI : Hid (ApS w A B ((w.alloc (.cells A 26)).alloc (.cells B 26)).drew) :=
    Lib.hid ⟨heap_drew' (heap_old' (heap_new' rfl)), heap_drew' (heap_new' (by simp)), ((below_alloc1 w _).alloc (by simp) _).drew, by simp⟩
  refine wp_region_held_drew (S := fun w' => ApS w A B w') (by kernel_rfl) HI.out (fun hHeld => ?_)
  clear HI
  refine wpAnyH_take (i := 0) (oi := { dst := some 14, op := Op.load _ (Operand.tmp 2), type := _, pos := "judge.go:39", after := #[], guard := none }) (v := .agg A) rfl (by kernel_rfl) (by kernel_rfl) (by kernel_rfl) (fun _ _ _ h => h) (yields_stJ (by rfl) _ rfl (w.heap.size) rfl A hzA (fun w' h => h.a)) hHeld ?_
  try simp only [Act.put, List.setIfInBounds_toArray, List.set_cons_zero, List.set_cons_succ]
  refine wpAnyH_take (i := 2) (oi := { dst := some 16, op := Op.load _ (Operand.tmp 3), type := _, pos := "judge.go:39", after := #[], guard := none }) (v := .agg B) rfl (by kernel_rfl) (by kernel_rfl) (by kernel_rfl) (fun _ _ _ h => h) (yields_stJ (by rfl) _ rfl (w.heap.size + 1) rfl B hzB (fun w' h => h.b)) hHeld ?_
  try simp only [Act.put, List.setIfInBounds_toArray, List.set_cons_zero, List.set_cons_succ]
  refine wpAnyH_ready (rs := [1]) (by kernel_rfl) (by simp) ?_
  refine AllReadyH.cons (o := { dst := some 15, op := Op.call { callee := Callee.value (Operand.func _), args := #[Operand.tmp 14], argTypes := _ }, type := _, pos := "judge.go:39", after := #[{ on := 0, ground := Ground.data }], guard := none }) rfl (fun K hK => ?_) AllReadyH.nil
  go_simp
  go_at_call 36
  refine (HX.out _ hHeld.below).mono ?_
  rintro e w1 ⟨vx, rfl, ox, hb1⟩
  have sx := hHeld.below.size
  refine hK.out _ _ (hHeld.next hb1) (fun hHeld => ?_)
  clear hK K
  try simp only [Act.put, List.setIfInBounds_toArray, List.set_cons_zero, List.set_cons_succ]
  refine wpAnyH_ready (rs := [3]) (by kernel_rfl) (by simp) ?_
  refine AllReadyH.cons (o := { dst := some 17, op := Op.call { callee := Callee.value (Operand.func _), args := #[Operand.tmp 16], argTypes := _ }, type := _, pos := "judge.go:39", after := #[{ on := 2, ground := Ground.data }, { on := 1, ground := Ground.chain }], guard := none }) rfl (fun K hK => ?_) AllReadyH.nil
  go_simp
  go_at_call 36
  refine (HY.out _ hHeld.below).mono ?_
  rintro e w2 ⟨vy, rfl, oy, hb2⟩
  have ox2 := own_keepR ox hb2
  have sy := hHeld.below.size
  refine hK.out _ _ (hHeld.next hb2) (fun hHeld => ?_)
  clear hK K
  try simp only [Act.put, List.setIfInBounds_toArray, List.set_cons_zero, List.set_cons_succ]
  refine wpAnyH_take (i := 4) (oi := { dst := some 8, op := Op.assign (Operand.tmp 15), type := _, pos := "judge.go:39", after := #[{ on := 1, ground := Ground.data }, { on := 3, ground := Ground.chain }, { on := 0, ground := Ground.phase }, { on := 1, ground := Ground.phase }, { on := 2, ground := Ground.textOnly Departure.lateStores }, { on := 3, ground := Ground.textOnly Departure.lateStoresUnsure }], guard := none }) (v := vx) rfl (by kernel_rfl) (by kernel_rfl) (by kernel_rfl) (fun _ _ _ h => h) (Or.inl ⟨by rfl, ?_⟩) hHeld ?_
  · intro w' hSw
    skip
    go_simp
  try simp only [Act.put, List.setIfInBounds_toArray, List.set_cons_zero, List.set_cons_succ]
  refine wpAnyH_take (i := 5) (oi := { dst := some 9, op := Op.assign (Operand.tmp 17), type := _, pos := "judge.go:39", after := #[{ on := 3, ground := Ground.data }, { on := 4, ground := Ground.chain }, { on := 0, ground := Ground.phase }, { on := 1, ground := Ground.phase }, { on := 2, ground := Ground.phase }, { on := 3, ground := Ground.phase }, { on := 4, ground := Ground.phase }], guard := none }) (v := vy) rfl (by kernel_rfl) (by kernel_rfl) (by kernel_rfl) (fun _ _ _ h => h) (Or.inl ⟨by rfl, ?_⟩) hHeld ?_
  · intro w' hSw
    skip
    go_simp
  try simp only [Act.put, List.setIfInBounds_toArray, List.set_cons_zero, List.set_cons_succ]
  refine wpAnyH_done (by kernel_rfl) ?_ _
  obtain ⟨gx, cx, rfl⟩ := ownsRow_succ ox2
  obtain ⟨gy, cy, rfl⟩ := ownsRow_succ oy
  have HR0 := Lib.hid (show ApR w2 gx gy (valsJ x h 19) (valsJ y g 19) w2 from ⟨fun j hj => ox2.cellAt j hj, fun j hj => oy.cellAt j hj, Below.refl _ _, own_lt ox2 _ rfl, own_lt oy _ rfl⟩)
  have HB2 := Lib.hid hHeld.below
  clear ox oy ox2 hHeld hb1 hb2 sx sy
  go_wp2_with fail
  go_loopg [6, 7, 20] 19 (fun gk v6 v7 vk wr => ∃ k : Nat, gk + k = 19 ∧ vk = .int .i64 (k : Int) ∧ wr.ownsRow w2.heap.size 56 2 v6 (diffJ x h y g k).length ((diffJ x h y g k).flatMap (entJ x h)) ∧
    wr.ownsRow w2.heap.size 56 2 v7 (diffJ x h y g k).length ((diffJ x h y g k).flatMap (entJ y g)) ∧ Dis v6 v7 ∧ ApR w2 gx gy (valsJ x h 19) (valsJ y g 19) wr)
  case atStart => exact ⟨0, rfl, rfl, ⟨rfl, .inl ⟨rfl, rfl⟩⟩, ⟨rfl, .inl ⟨rfl, rfl⟩⟩, (fun g a _ => by cases a), HR0.out⟩
  case round =>
    obtain ⟨k, hk, rfl, own6, own7, hD, hRd⟩ := hrel
    have HR := Lib.hid hRd
    clear hRd
    by_cases c1 : k < 19
    · have i1 : (k : Int) < 19 := by omega
      obtain ⟨e0, e1⟩ := valsJ_at x h 19 c1
      obtain ⟨f0, f1⟩ := valsJ_at y g 19 c1
      have hl := diffJ_len x h y g k
      have hS := diffJ_succ x h y g k
      have hE6 : entJ x h k = [.string ⟨(nameJ k).toArray⟩, .int .u32 (valJ x h k)] := rfl
      have hE7 : entJ y g k = [.string ⟨(nameJ k).toArray⟩, .int .u32 (valJ y g k)] := rfl
      have va : 0 ≤ valJ x h k ∧ valJ x h k < 4294967296 := by unfold valJ; have := hxb.out k; split; exact this; split <;> decide
      have vb : 0 ≤ valJ y g k ∧ valJ y g k < 4294967296 := by unfold valJ; have := hyb.out k; split; exact this; split <;> decide
      generalize valJ x h k = a at e1 hS hE6 va
      generalize valJ y g k = b at f1 hS hE7 vb
      generalize (⟨(nameJ k).toArray⟩ : ByteArray) = nm at e0 f0 hE6 hE7
      have hne := neqV nm a b va vb
      have PX0 := Lib.hid e0
      have PX1 := Lib.hid e1
      have PY0 := Lib.hid f0
      have PY1 := Lib.hid f1
      have HS := Lib.hid hS
      have HE6 := Lib.hid hE6
      have HE7 := Lib.hid hE7
      have p0 := (HR.out.x (k * 2) (by omega)).trans e0
      have p1 := (HR.out.x (k * 2 + 1) (by omega)).trans e1
      have q0 := (HR.out.y (k * 2) (by omega)).trans f0
      have q1 := (HR.out.y (k * 2 + 1) (by omega)).trans f1
      have gx1 : gx < wr.heap.size := Nat.lt_of_lt_of_le HR.out.gx HR.out.below.size
      have gy1 : gy < wr.heap.size := Nat.lt_of_lt_of_le HR.out.gy HR.out.below.size
      clear e0 e1 f0 f1 hS hE6 hE7
      by_cases c2 : a = b
      · have d : (a != b) = false := by simp [c2]
        have HS2 := Lib.hid (show diffJ x h y g (k + 1) = diffJ x h y g k from by rw [HS.out, d]; simp)
        clear c2 HS
        go_wp2_with fail
        go_quiet (fail)
        go_wp2_with fail
        go_roundg (gk - 1)
        case measure => omega
        case rel => exact ⟨k + 1, by omega, by go_num, by rw [HS2.out]; exact own6, by rw [HS2.out]; exact own7, hD, ⟨HR.out.x, HR.out.y, below_drewN HR.out.below _, HR.out.gx, HR.out.gy⟩⟩
      · have d : (a != b) = true := by simpa using c2
        have HS2 := Lib.hid (show diffJ x h y g (k + 1) = diffJ x h y g k ++ [k] from by rw [HS.out, d]; simp)
        clear c2 HS
        go_wp2_with fail
        go_quiet (fail)
        go_wp2_with fail
        have O6 : ((wr.drewN nq).drew).ownsRow _ _ _ _ _ _ := own6
        have O7 : ((wr.drewN nq).drew).ownsRow _ _ _ _ _ _ := own7
        refine wp_region_held_drew (S := fun w' => ApR w2 gx gy (valsJ x h 19) (valsJ y g 19) w') (by kernel_rfl) (show ApR w2 gx gy (valsJ x h 19) (valsJ y g 19) (wr.drewN nq).drew from ⟨HR.out.x, HR.out.y, (below_drewN HR.out.below _).drew, HR.out.gx, HR.out.gy⟩) (fun hHeld => ?_)
        generalize (wr.drewN nq).drew = W0 at hHeld O6 O7 ⊢
        clear own6 own7 p0 p1 q0 q1 gx1 gy1
        refine wpAnyH_take (i := 0) (oi := { dst := some 32, op := Op.move (Operand.tmp 6), type := _, pos := "judge.go:42", after := #[], guard := none }) (v := u6) rfl (by kernel_rfl) (by kernel_rfl) (by kernel_rfl) (fun _ _ _ h => h) (Or.inl ⟨by rfl, ?_⟩) hHeld ?_
        · intro w' hSw
          have p0 := (hSw.x (k * 2) (by omega)).trans PX0.out
          have p1 := (hSw.x (k * 2 + 1) (by omega)).trans PX1.out
          have q0 := (hSw.y (k * 2) (by omega)).trans PY0.out
          have q1 := (hSw.y (k * 2 + 1) (by omega)).trans PY1.out
          have i18 : (k : Int) < 18 + 1 := by omega
          go_simp
        try simp only [Act.put, List.setIfInBounds_toArray, List.set_cons_zero, List.set_cons_succ]
        refine wpAnyH_take (i := 1) (oi := { dst := some 33, op := Op.move (Operand.tmp 8), type := _, pos := "judge.go:42", after := #[], guard := none }) (v := .slice (some ⟨gx, 0, none⟩) 19 cx) rfl (by kernel_rfl) (by kernel_rfl) (by kernel_rfl) (fun _ _ _ h => h) (Or.inl ⟨by rfl, ?_⟩) hHeld ?_
        · intro w' hSw
          have p0 := (hSw.x (k * 2) (by omega)).trans PX0.out
          have p1 := (hSw.x (k * 2 + 1) (by omega)).trans PX1.out
          have q0 := (hSw.y (k * 2) (by omega)).trans PY0.out
          have q1 := (hSw.y (k * 2 + 1) (by omega)).trans PY1.out
          have i18 : (k : Int) < 18 + 1 := by omega
          go_simp
        try simp only [Act.put, List.setIfInBounds_toArray, List.set_cons_zero, List.set_cons_succ]
        refine wpAnyH_take (i := 2) (oi := { dst := some 34, op := Op.move (Operand.tmp 10), type := _, pos := "judge.go:42", after := #[], guard := none }) (v := .int .i64 (k : Int)) rfl (by kernel_rfl) (by kernel_rfl) (by kernel_rfl) (fun _ _ _ h => h) (Or.inl ⟨by rfl, ?_⟩) hHeld ?_
        · intro w' hSw
          have p0 := (hSw.x (k * 2) (by omega)).trans PX0.out
          have p1 := (hSw.x (k * 2 + 1) (by omega)).trans PX1.out
          have q0 := (hSw.y (k * 2) (by omega)).trans PY0.out
          have q1 := (hSw.y (k * 2 + 1) (by omega)).trans PY1.out
          have i18 : (k : Int) < 18 + 1 := by omega
          go_simp
        try simp only [Act.put, List.setIfInBounds_toArray, List.set_cons_zero, List.set_cons_succ]
        refine wpAnyH_take (i := 3) (oi := { dst := some 35, op := Op.indexAddr _ (Operand.tmp 33) (Operand.tmp 34), type := _, pos := "judge.go:42", after := #[{ on := 1, ground := Ground.data }, { on := 2, ground := Ground.data }], guard := none }) (v := .pointer (some ⟨gx, k * 2, none⟩)) rfl (by kernel_rfl) (by kernel_rfl) (by kernel_rfl) (fun _ _ _ h => h) (Or.inl ⟨by rfl, ?_⟩) hHeld ?_
        · intro w' hSw
          have p0 := (hSw.x (k * 2) (by omega)).trans PX0.out
          have p1 := (hSw.x (k * 2 + 1) (by omega)).trans PX1.out
          have q0 := (hSw.y (k * 2) (by omega)).trans PY0.out
          have q1 := (hSw.y (k * 2 + 1) (by omega)).trans PY1.out
          have i18 : (k : Int) < 18 + 1 := by omega
          go_simp
        try simp only [Act.put, List.setIfInBounds_toArray, List.set_cons_zero, List.set_cons_succ]
        refine wpAnyH_take (i := 4) (oi := { dst := some 36, op := Op.load _ (Operand.tmp 35), type := _, pos := "judge.go:42", after := #[{ on := 3, ground := Ground.data }], guard := none }) (v := .agg #[.string nm, .int .u32 a]) rfl (by kernel_rfl) (by kernel_rfl) (by kernel_rfl) (fun _ _ _ h => h) (Or.inl ⟨by rfl, ?_⟩) hHeld ?_
        · intro w' hSw
          have p0 := (hSw.x (k * 2) (by omega)).trans PX0.out
          have p1 := (hSw.x (k * 2 + 1) (by omega)).trans PX1.out
          have q0 := (hSw.y (k * 2) (by omega)).trans PY0.out
          have q1 := (hSw.y (k * 2 + 1) (by omega)).trans PY1.out
          have i18 : (k : Int) < 18 + 1 := by omega
          go_simp
        try simp only [Act.put, List.setIfInBounds_toArray, List.set_cons_zero, List.set_cons_succ]
        refine wpAnyH_take (i := 7) (oi := { dst := some 39, op := Op.move (Operand.tmp 7), type := _, pos := "judge.go:42", after := #[], guard := none }) (v := u7) rfl (by kernel_rfl) (by kernel_rfl) (by kernel_rfl) (fun _ _ _ h => h) (Or.inl ⟨by rfl, ?_⟩) hHeld ?_
        · intro w' hSw
          have p0 := (hSw.x (k * 2) (by omega)).trans PX0.out
          have p1 := (hSw.x (k * 2 + 1) (by omega)).trans PX1.out
          have q0 := (hSw.y (k * 2) (by omega)).trans PY0.out
          have q1 := (hSw.y (k * 2 + 1) (by omega)).trans PY1.out
          have i18 : (k : Int) < 18 + 1 := by omega
          go_simp
        try simp only [Act.put, List.setIfInBounds_toArray, List.set_cons_zero, List.set_cons_succ]
        refine wpAnyH_take (i := 8) (oi := { dst := some 40, op := Op.move (Operand.tmp 9), type := _, pos := "judge.go:42", after := #[], guard := none }) (v := .slice (some ⟨gy, 0, none⟩) 19 cy) rfl (by kernel_rfl) (by kernel_rfl) (by kernel_rfl) (fun _ _ _ h => h) (Or.inl ⟨by rfl, ?_⟩) hHeld ?_
        · intro w' hSw
          have p0 := (hSw.x (k * 2) (by omega)).trans PX0.out
          have p1 := (hSw.x (k * 2 + 1) (by omega)).trans PX1.out
          have q0 := (hSw.y (k * 2) (by omega)).trans PY0.out
          have q1 := (hSw.y (k * 2 + 1) (by omega)).trans PY1.out
          have i18 : (k : Int) < 18 + 1 := by omega
          go_simp
        try simp only [Act.put, List.setIfInBounds_toArray, List.set_cons_zero, List.set_cons_succ]
        refine wpAnyH_take (i := 9) (oi := { dst := some 41, op := Op.move (Operand.tmp 10), type := _, pos := "judge.go:42", after := #[], guard := none }) (v := .int .i64 (k : Int)) rfl (by kernel_rfl) (by kernel_rfl) (by kernel_rfl) (fun _ _ _ h => h) (Or.inl ⟨by rfl, ?_⟩) hHeld ?_
        · intro w' hSw
          have p0 := (hSw.x (k * 2) (by omega)).trans PX0.out
          have p1 := (hSw.x (k * 2 + 1) (by omega)).trans PX1.out
          have q0 := (hSw.y (k * 2) (by omega)).trans PY0.out
          have q1 := (hSw.y (k * 2 + 1) (by omega)).trans PY1.out
          have i18 : (k : Int) < 18 + 1 := by omega
          go_simp
        try simp only [Act.put, List.setIfInBounds_toArray, List.set_cons_zero, List.set_cons_succ]
        refine wpAnyH_take (i := 10) (oi := { dst := some 42, op := Op.indexAddr _ (Operand.tmp 40) (Operand.tmp 41), type := _, pos := "judge.go:42", after := #[{ on := 8, ground := Ground.data }, { on := 9, ground := Ground.data }], guard := none }) (v := .pointer (some ⟨gy, k * 2, none⟩)) rfl (by kernel_rfl) (by kernel_rfl) (by kernel_rfl) (fun _ _ _ h => h) (Or.inl ⟨by rfl, ?_⟩) hHeld ?_
        · intro w' hSw
          have p0 := (hSw.x (k * 2) (by omega)).trans PX0.out
          have p1 := (hSw.x (k * 2 + 1) (by omega)).trans PX1.out
          have q0 := (hSw.y (k * 2) (by omega)).trans PY0.out
          have q1 := (hSw.y (k * 2 + 1) (by omega)).trans PY1.out
          have i18 : (k : Int) < 18 + 1 := by omega
          go_simp
        try simp only [Act.put, List.setIfInBounds_toArray, List.set_cons_zero, List.set_cons_succ]
        refine wpAnyH_take (i := 11) (oi := { dst := some 43, op := Op.load _ (Operand.tmp 42), type := _, pos := "judge.go:42", after := #[{ on := 10, ground := Ground.data }], guard := none }) (v := .agg #[.string nm, .int .u32 b]) rfl (by kernel_rfl) (by kernel_rfl) (by kernel_rfl) (fun _ _ _ h => h) (Or.inl ⟨by rfl, ?_⟩) hHeld ?_
        · intro w' hSw
          have p0 := (hSw.x (k * 2) (by omega)).trans PX0.out
          have p1 := (hSw.x (k * 2 + 1) (by omega)).trans PX1.out
          have q0 := (hSw.y (k * 2) (by omega)).trans PY0.out
          have q1 := (hSw.y (k * 2 + 1) (by omega)).trans PY1.out
          have i18 : (k : Int) < 18 + 1 := by omega
          go_simp
        try simp only [Act.put, List.setIfInBounds_toArray, List.set_cons_zero, List.set_cons_succ]
        refine wpAnyH_ready (rs := [5, 12]) (by kernel_rfl) (by simp) ?_
        refine (AllReadyH.cons (o := { dst := some 37, op := Op.buildSlice 52 1 #[(0, Operand.tmp 36)], type := _, pos := "judge.go:42", after := #[{ on := 4, ground := Ground.data }], guard := none }) rfl (fun K hK => ?_) (AllReadyH.cons (o := { dst := some 44, op := Op.buildSlice 52 1 #[(0, Operand.tmp 43)], type := _, pos := "judge.go:42", after := #[{ on := 11, ground := Ground.data }], guard := none }) rfl (fun K hK => ?_) AllReadyH.nil))
        · skip
          go_simp
          have hz5 := hHeld.below.size
          have O6 := O6.alloc (.cells #[.string nm, .int .u32 a] 56)
          have O7 := O7.alloc (.cells #[.string nm, .int .u32 a] 56)
          have N5 : News _ _ _ := cells_newJ W0 [.string nm, .int .u32 a] 56 W0.heap.size rfl
          refine hK.out _ _ (hHeld.next ((Below.refl _ _).alloc hz5 _)) (fun hHeld => ?_)
          clear hK K
          try simp only [Act.put, List.setIfInBounds_toArray, List.set_cons_zero, List.set_cons_succ]
          skip
          skip
          generalize hWW0_5 : W0.alloc (.cells #[.string nm, .int .u32 a] 56) = W0_5 at hHeld O6 O7 N5 ⊢
          refine wpAnyH_ready (rs := [6, 12]) (by kernel_rfl) (by simp) ?_
          refine (AllReadyH.cons (o := { dst := some 38, op := Op.call { callee := Callee.builtin Builtin.append, args := #[Operand.tmp 32, Operand.tmp 37], argTypes := _ }, type := _, pos := "judge.go:42", after := #[{ on := 0, ground := Ground.data }, { on := 5, ground := Ground.data }], guard := none }) rfl (fun K hK => ?_) (AllReadyH.cons (o := { dst := some 44, op := Op.buildSlice 52 1 #[(0, Operand.tmp 43)], type := _, pos := "judge.go:42", after := #[{ on := 11, ground := Ground.data }], guard := none }) rfl (fun K hK => ?_) AllReadyH.nil))
          · skip
            rw [if_pos (by rfl)]
            refine wp_append_at _ _ _ 52 rfl w2.heap.size 56 i0 _ 2 24 Tryd.underlying52 hi hz0 hz1 hz2 rfl (by decide) _ _ _ rfl O6 _ 1 1 [.string nm, .int .u32 a] rfl rfl N5 (by simp [Value.oneCell']) (by unfold maxLen; omega) (by omega) hHeld.below.size ?_
            intro v6 W0_5_6 ownA grA hvA
            obtain ⟨O7, hD⟩ := two_left O7 hD grA hvA
            have hBA : Below w2.heap.size W0_5 W0_5_6 := (Below.refl _ _).grown grA hHeld.below.size (own_geJ O6)
            have O6 := ownA
            clear ownA
            refine hK.out _ _ (hHeld.next hBA) (fun hHeld => ?_)
            clear hK K hBA grA hvA
            try simp only [Act.put, List.setIfInBounds_toArray, List.set_cons_zero, List.set_cons_succ]
            refine wpAnyH_ready (rs := [12]) (by kernel_rfl) (by simp) ?_
            refine (AllReadyH.cons (o := { dst := some 44, op := Op.buildSlice 52 1 #[(0, Operand.tmp 43)], type := _, pos := "judge.go:42", after := #[{ on := 11, ground := Ground.data }], guard := none }) rfl (fun K hK => ?_) AllReadyH.nil)
            · skip
              go_simp
              have hz12 := hHeld.below.size
              have O6 := O6.alloc (.cells #[.string nm, .int .u32 b] 56)
              have O7 := O7.alloc (.cells #[.string nm, .int .u32 b] 56)
              have N12 : News _ _ _ := cells_newJ W0_5_6 [.string nm, .int .u32 b] 56 W0_5_6.heap.size rfl
              refine hK.out _ _ (hHeld.next ((Below.refl _ _).alloc hz12 _)) (fun hHeld => ?_)
              clear hK K
              try simp only [Act.put, List.setIfInBounds_toArray, List.set_cons_zero, List.set_cons_succ]
              skip
              skip
              generalize hWW0_5_6_12 : W0_5_6.alloc (.cells #[.string nm, .int .u32 b] 56) = W0_5_6_12 at hHeld O6 O7 N12 ⊢
              refine wpAnyH_ready (rs := [13]) (by kernel_rfl) (by simp) ?_
              refine (AllReadyH.cons (o := { dst := some 45, op := Op.call { callee := Callee.builtin Builtin.append, args := #[Operand.tmp 39, Operand.tmp 44], argTypes := _ }, type := _, pos := "judge.go:42", after := #[{ on := 7, ground := Ground.data }, { on := 12, ground := Ground.data }, { on := 6, ground := Ground.chain }], guard := none }) rfl (fun K hK => ?_) AllReadyH.nil)
              · skip
                rw [if_pos (by rfl)]
                refine wp_append_at _ _ _ 52 rfl w2.heap.size 56 i0 _ 2 24 Tryd.underlying52 hi hz0 hz1 hz2 rfl (by decide) _ _ _ rfl O7 _ 1 1 [.string nm, .int .u32 b] rfl rfl N12 (by simp [Value.oneCell']) (by unfold maxLen; omega) (by omega) hHeld.below.size ?_
                intro v13 W0_5_6_12_13 ownA grA hvA
                obtain ⟨O6, hD⟩ := two_left O6 hD.symm grA hvA
                have hD := hD.symm
                have hBA : Below w2.heap.size W0_5_6_12 W0_5_6_12_13 := (Below.refl _ _).grown grA hHeld.below.size (own_geJ O7)
                have O7 := ownA
                clear ownA
                refine hK.out _ _ (hHeld.next hBA) (fun hHeld => ?_)
                clear hK K hBA grA hvA
                try simp only [Act.put, List.setIfInBounds_toArray, List.set_cons_zero, List.set_cons_succ]
                refine wpAnyH_take (i := 14) (oi := { dst := some 6, op := Op.assign (Operand.tmp 38), type := _, pos := "judge.go:42", after := #[{ on := 6, ground := Ground.data }, { on := 13, ground := Ground.chain }, { on := 0, ground := Ground.phase }, { on := 1, ground := Ground.phase }, { on := 2, ground := Ground.phase }, { on := 3, ground := Ground.phase }, { on := 4, ground := Ground.phase }, { on := 5, ground := Ground.phase }, { on := 6, ground := Ground.phase }, { on := 7, ground := Ground.textOnly Departure.lateStores }, { on := 8, ground := Ground.textOnly Departure.lateStores }, { on := 9, ground := Ground.textOnly Departure.lateStores }, { on := 10, ground := Ground.textOnly Departure.lateStores }, { on := 11, ground := Ground.textOnly Departure.lateStores }, { on := 12, ground := Ground.textOnly Departure.lateStores }, { on := 13, ground := Ground.textOnly Departure.lateStoresUnsure }], guard := none }) (v := v6) rfl (by kernel_rfl) (by kernel_rfl) (by kernel_rfl) (fun _ _ _ h => h) (Or.inl ⟨by rfl, ?_⟩) hHeld ?_
                · intro w' hSw
                  have p0 := (hSw.x (k * 2) (by omega)).trans PX0.out
                  have p1 := (hSw.x (k * 2 + 1) (by omega)).trans PX1.out
                  have q0 := (hSw.y (k * 2) (by omega)).trans PY0.out
                  have q1 := (hSw.y (k * 2 + 1) (by omega)).trans PY1.out
                  have i18 : (k : Int) < 18 + 1 := by omega
                  go_simp
                try simp only [Act.put, List.setIfInBounds_toArray, List.set_cons_zero, List.set_cons_succ]
                refine wpAnyH_take (i := 15) (oi := { dst := some 7, op := Op.assign (Operand.tmp 45), type := _, pos := "judge.go:42", after := #[{ on := 13, ground := Ground.data }, { on := 14, ground := Ground.chain }, { on := 0, ground := Ground.phase }, { on := 1, ground := Ground.phase }, { on := 2, ground := Ground.phase }, { on := 3, ground := Ground.phase }, { on := 4, ground := Ground.phase }, { on := 5, ground := Ground.phase }, { on := 6, ground := Ground.phase }, { on := 7, ground := Ground.phase }, { on := 8, ground := Ground.phase }, { on := 9, ground := Ground.phase }, { on := 10, ground := Ground.phase }, { on := 11, ground := Ground.phase }, { on := 12, ground := Ground.phase }, { on := 13, ground := Ground.phase }, { on := 14, ground := Ground.phase }], guard := none }) (v := v13) rfl (by kernel_rfl) (by kernel_rfl) (by kernel_rfl) (fun _ _ _ h => h) (Or.inl ⟨by rfl, ?_⟩) hHeld ?_
                · intro w' hSw
                  have p0 := (hSw.x (k * 2) (by omega)).trans PX0.out
                  have p1 := (hSw.x (k * 2 + 1) (by omega)).trans PX1.out
                  have q0 := (hSw.y (k * 2) (by omega)).trans PY0.out
                  have q1 := (hSw.y (k * 2 + 1) (by omega)).trans PY1.out
                  have i18 : (k : Int) < 18 + 1 := by omega
                  go_simp
                try simp only [Act.put, List.setIfInBounds_toArray, List.set_cons_zero, List.set_cons_succ]
                refine wpAnyH_done (by kernel_rfl) ?_ _
                go_wp2_with fail
                go_roundg (gk - 1)
                case measure => omega
                case rel => exact ⟨k + 1, by omega, by go_num, by rw [HS2.out, List.flatMap_append, List.length_append]; simpa [HE6.out] using O6, by rw [HS2.out, List.flatMap_append, List.length_append]; simpa [HE7.out] using O7, hD, hHeld⟩
          · skip
            have hF12 : ∀ g0 : Nat, Value.ownBlock u6 = some g0 → g0 = W0_5.heap.size → False := fun g0 hg0 e0 => absurd (own_lt O6 g0 hg0) (by rw [e0]; exact Nat.lt_irrefl _)
            go_simp
            have hz12 := hHeld.below.size
            have O6 := O6.alloc (.cells #[.string nm, .int .u32 b] 56)
            have O7 := O7.alloc (.cells #[.string nm, .int .u32 b] 56)
            have N12 : News _ _ _ := cells_newJ W0_5 [.string nm, .int .u32 b] 56 W0_5.heap.size rfl
            have N5 := N5.alloc (.cells #[.string nm, .int .u32 b] 56)
            refine hK.out _ _ (hHeld.next ((Below.refl _ _).alloc hz12 _)) (fun hHeld => ?_)
            clear hK K
            try simp only [Act.put, List.setIfInBounds_toArray, List.set_cons_zero, List.set_cons_succ]
            skip
            skip
            generalize hWW0_5_12 : W0_5.alloc (.cells #[.string nm, .int .u32 b] 56) = W0_5_12 at hHeld O6 O7 N12 N5 ⊢
            refine wpAnyH_ready (rs := [6]) (by kernel_rfl) (by simp) ?_
            refine (AllReadyH.cons (o := { dst := some 38, op := Op.call { callee := Callee.builtin Builtin.append, args := #[Operand.tmp 32, Operand.tmp 37], argTypes := _ }, type := _, pos := "judge.go:42", after := #[{ on := 0, ground := Ground.data }, { on := 5, ground := Ground.data }], guard := none }) rfl (fun K hK => ?_) AllReadyH.nil)
            · skip
              rw [if_pos (by rfl)]
              refine wp_append_at _ _ _ 52 rfl w2.heap.size 56 i0 _ 2 24 Tryd.underlying52 hi hz0 hz1 hz2 rfl (by decide) _ _ _ rfl O6 _ 1 1 [.string nm, .int .u32 a] rfl rfl N5 (by simp [Value.oneCell']) (by unfold maxLen; omega) (by omega) hHeld.below.size ?_
              intro v6 W0_5_12_6 ownA grA hvA
              obtain ⟨O7, hD⟩ := two_left O7 hD grA hvA
              have hBA : Below w2.heap.size W0_5_12 W0_5_12_6 := (Below.refl _ _).grown grA hHeld.below.size (own_geJ O6)
              have N12 := N12.grow grA hF12
              have O6 := ownA
              clear ownA
              refine hK.out _ _ (hHeld.next hBA) (fun hHeld => ?_)
              clear hK K hBA grA hvA
              try simp only [Act.put, List.setIfInBounds_toArray, List.set_cons_zero, List.set_cons_succ]
              refine wpAnyH_ready (rs := [13]) (by kernel_rfl) (by simp) ?_
              refine (AllReadyH.cons (o := { dst := some 45, op := Op.call { callee := Callee.builtin Builtin.append, args := #[Operand.tmp 39, Operand.tmp 44], argTypes := _ }, type := _, pos := "judge.go:42", after := #[{ on := 7, ground := Ground.data }, { on := 12, ground := Ground.data }, { on := 6, ground := Ground.chain }], guard := none }) rfl (fun K hK => ?_) AllReadyH.nil)
              · skip
                rw [if_pos (by rfl)]
                refine wp_append_at _ _ _ 52 rfl w2.heap.size 56 i0 _ 2 24 Tryd.underlying52 hi hz0 hz1 hz2 rfl (by decide) _ _ _ rfl O7 _ 1 1 [.string nm, .int .u32 b] rfl rfl N12 (by simp [Value.oneCell']) (by unfold maxLen; omega) (by omega) hHeld.below.size ?_
                intro v13 W0_5_12_6_13 ownA grA hvA
                obtain ⟨O6, hD⟩ := two_left O6 hD.symm grA hvA
                have hD := hD.symm
                have hBA : Below w2.heap.size W0_5_12_6 W0_5_12_6_13 := (Below.refl _ _).grown grA hHeld.below.size (own_geJ O7)
                have O7 := ownA
                clear ownA
                refine hK.out _ _ (hHeld.next hBA) (fun hHeld => ?_)
                clear hK K hBA grA hvA
                try simp only [Act.put, List.setIfInBounds_toArray, List.set_cons_zero, List.set_cons_succ]
                refine wpAnyH_take (i := 14) (oi := { dst := some 6, op := Op.assign (Operand.tmp 38), type := _, pos := "judge.go:42", after := #[{ on := 6, ground := Ground.data }, { on := 13, ground := Ground.chain }, { on := 0, ground := Ground.phase }, { on := 1, ground := Ground.phase }, { on := 2, ground := Ground.phase }, { on := 3, ground := Ground.phase }, { on := 4, ground := Ground.phase }, { on := 5, ground := Ground.phase }, { on := 6, ground := Ground.phase }, { on := 7, ground := Ground.textOnly Departure.lateStores }, { on := 8, ground := Ground.textOnly Departure.lateStores }, { on := 9, ground := Ground.textOnly Departure.lateStores }, { on := 10, ground := Ground.textOnly Departure.lateStores }, { on := 11, ground := Ground.textOnly Departure.lateStores }, { on := 12, ground := Ground.textOnly Departure.lateStores }, { on := 13, ground := Ground.textOnly Departure.lateStoresUnsure }], guard := none }) (v := v6) rfl (by kernel_rfl) (by kernel_rfl) (by kernel_rfl) (fun _ _ _ h => h) (Or.inl ⟨by rfl, ?_⟩) hHeld ?_
                · intro w' hSw
                  have p0 := (hSw.x (k * 2) (by omega)).trans PX0.out
                  have p1 := (hSw.x (k * 2 + 1) (by omega)).trans PX1.out
                  have q0 := (hSw.y (k * 2) (by omega)).trans PY0.out
                  have q1 := (hSw.y (k * 2 + 1) (by omega)).trans PY1.out
                  have i18 : (k : Int) < 18 + 1 := by omega
                  go_simp
                try simp only [Act.put, List.setIfInBounds_toArray, List.set_cons_zero, List.set_cons_succ]
                refine wpAnyH_take (i := 15) (oi := { dst := some 7, op := Op.assign (Operand.tmp 45), type := _, pos := "judge.go:42", after := #[{ on := 13, ground := Ground.data }, { on := 14, ground := Ground.chain }, { on := 0, ground := Ground.phase }, { on := 1, ground := Ground.phase }, { on := 2, ground := Ground.phase }, { on := 3, ground := Ground.phase }, { on := 4, ground := Ground.phase }, { on := 5, ground := Ground.phase }, { on := 6, ground := Ground.phase }, { on := 7, ground := Ground.phase }, { on := 8, ground := Ground.phase }, { on := 9, ground := Ground.phase }, { on := 10, ground := Ground.phase }, { on := 11, ground := Ground.phase }, { on := 12, ground := Ground.phase }, { on := 13, ground := Ground.phase }, { on := 14, ground := Ground.phase }], guard := none }) (v := v13) rfl (by kernel_rfl) (by kernel_rfl) (by kernel_rfl) (fun _ _ _ h => h) (Or.inl ⟨by rfl, ?_⟩) hHeld ?_
                · intro w' hSw
                  have p0 := (hSw.x (k * 2) (by omega)).trans PX0.out
                  have p1 := (hSw.x (k * 2 + 1) (by omega)).trans PX1.out
                  have q0 := (hSw.y (k * 2) (by omega)).trans PY0.out
                  have q1 := (hSw.y (k * 2 + 1) (by omega)).trans PY1.out
                  have i18 : (k : Int) < 18 + 1 := by omega
                  go_simp
                try simp only [Act.put, List.setIfInBounds_toArray, List.set_cons_zero, List.set_cons_succ]
                refine wpAnyH_done (by kernel_rfl) ?_ _
                go_wp2_with fail
                go_roundg (gk - 1)
                case measure => omega
                case rel => exact ⟨k + 1, by omega, by go_num, by rw [HS2.out, List.flatMap_append, List.length_append]; simpa [HE6.out] using O6, by rw [HS2.out, List.flatMap_append, List.length_append]; simpa [HE7.out] using O7, hD, hHeld⟩
        · skip
          have hF12 : ∀ g0 : Nat, Value.ownBlock u6 = some g0 → g0 = W0.heap.size → False := fun g0 hg0 e0 => absurd (own_lt O6 g0 hg0) (by rw [e0]; exact Nat.lt_irrefl _)
          go_simp
          have hz12 := hHeld.below.size
          have O6 := O6.alloc (.cells #[.string nm, .int .u32 b] 56)
          have O7 := O7.alloc (.cells #[.string nm, .int .u32 b] 56)
          have N12 : News _ _ _ := cells_newJ W0 [.string nm, .int .u32 b] 56 W0.heap.size rfl
          refine hK.out _ _ (hHeld.next ((Below.refl _ _).alloc hz12 _)) (fun hHeld => ?_)
          clear hK K
          try simp only [Act.put, List.setIfInBounds_toArray, List.set_cons_zero, List.set_cons_succ]
          skip
          skip
          generalize hWW0_12 : W0.alloc (.cells #[.string nm, .int .u32 b] 56) = W0_12 at hHeld O6 O7 N12 ⊢
          refine wpAnyH_ready (rs := [5]) (by kernel_rfl) (by simp) ?_
          refine (AllReadyH.cons (o := { dst := some 37, op := Op.buildSlice 52 1 #[(0, Operand.tmp 36)], type := _, pos := "judge.go:42", after := #[{ on := 4, ground := Ground.data }], guard := none }) rfl (fun K hK => ?_) AllReadyH.nil)
          · skip
            go_simp
            have hz5 := hHeld.below.size
            have O6 := O6.alloc (.cells #[.string nm, .int .u32 a] 56)
            have O7 := O7.alloc (.cells #[.string nm, .int .u32 a] 56)
            have N5 : News _ _ _ := cells_newJ W0_12 [.string nm, .int .u32 a] 56 W0_12.heap.size rfl
            have N12 := N12.alloc (.cells #[.string nm, .int .u32 a] 56)
            refine hK.out _ _ (hHeld.next ((Below.refl _ _).alloc hz5 _)) (fun hHeld => ?_)
            clear hK K
            try simp only [Act.put, List.setIfInBounds_toArray, List.set_cons_zero, List.set_cons_succ]
            skip
            skip
            generalize hWW0_12_5 : W0_12.alloc (.cells #[.string nm, .int .u32 a] 56) = W0_12_5 at hHeld O6 O7 N5 N12 ⊢
            refine wpAnyH_ready (rs := [6]) (by kernel_rfl) (by simp) ?_
            refine (AllReadyH.cons (o := { dst := some 38, op := Op.call { callee := Callee.builtin Builtin.append, args := #[Operand.tmp 32, Operand.tmp 37], argTypes := _ }, type := _, pos := "judge.go:42", after := #[{ on := 0, ground := Ground.data }, { on := 5, ground := Ground.data }], guard := none }) rfl (fun K hK => ?_) AllReadyH.nil)
            · skip
              rw [if_pos (by rfl)]
              refine wp_append_at _ _ _ 52 rfl w2.heap.size 56 i0 _ 2 24 Tryd.underlying52 hi hz0 hz1 hz2 rfl (by decide) _ _ _ rfl O6 _ 1 1 [.string nm, .int .u32 a] rfl rfl N5 (by simp [Value.oneCell']) (by unfold maxLen; omega) (by omega) hHeld.below.size ?_
              intro v6 W0_12_5_6 ownA grA hvA
              obtain ⟨O7, hD⟩ := two_left O7 hD grA hvA
              have hBA : Below w2.heap.size W0_12_5 W0_12_5_6 := (Below.refl _ _).grown grA hHeld.below.size (own_geJ O6)
              have N12 := N12.grow grA hF12
              have O6 := ownA
              clear ownA
              refine hK.out _ _ (hHeld.next hBA) (fun hHeld => ?_)
              clear hK K hBA grA hvA
              try simp only [Act.put, List.setIfInBounds_toArray, List.set_cons_zero, List.set_cons_succ]
              refine wpAnyH_ready (rs := [13]) (by kernel_rfl) (by simp) ?_
              refine (AllReadyH.cons (o := { dst := some 45, op := Op.call { callee := Callee.builtin Builtin.append, args := #[Operand.tmp 39, Operand.tmp 44], argTypes := _ }, type := _, pos := "judge.go:42", after := #[{ on := 7, ground := Ground.data }, { on := 12, ground := Ground.data }, { on := 6, ground := Ground.chain }], guard := none }) rfl (fun K hK => ?_) AllReadyH.nil)
              · skip
                rw [if_pos (by rfl)]
                refine wp_append_at _ _ _ 52 rfl w2.heap.size 56 i0 _ 2 24 Tryd.underlying52 hi hz0 hz1 hz2 rfl (by decide) _ _ _ rfl O7 _ 1 1 [.string nm, .int .u32 b] rfl rfl N12 (by simp [Value.oneCell']) (by unfold maxLen; omega) (by omega) hHeld.below.size ?_
                intro v13 W0_12_5_6_13 ownA grA hvA
                obtain ⟨O6, hD⟩ := two_left O6 hD.symm grA hvA
                have hD := hD.symm
                have hBA : Below w2.heap.size W0_12_5_6 W0_12_5_6_13 := (Below.refl _ _).grown grA hHeld.below.size (own_geJ O7)
                have O7 := ownA
                clear ownA
                refine hK.out _ _ (hHeld.next hBA) (fun hHeld => ?_)
                clear hK K hBA grA hvA
                try simp only [Act.put, List.setIfInBounds_toArray, List.set_cons_zero, List.set_cons_succ]
                refine wpAnyH_take (i := 14) (oi := { dst := some 6, op := Op.assign (Operand.tmp 38), type := _, pos := "judge.go:42", after := #[{ on := 6, ground := Ground.data }, { on := 13, ground := Ground.chain }, { on := 0, ground := Ground.phase }, { on := 1, ground := Ground.phase }, { on := 2, ground := Ground.phase }, { on := 3, ground := Ground.phase }, { on := 4, ground := Ground.phase }, { on := 5, ground := Ground.phase }, { on := 6, ground := Ground.phase }, { on := 7, ground := Ground.textOnly Departure.lateStores }, { on := 8, ground := Ground.textOnly Departure.lateStores }, { on := 9, ground := Ground.textOnly Departure.lateStores }, { on := 10, ground := Ground.textOnly Departure.lateStores }, { on := 11, ground := Ground.textOnly Departure.lateStores }, { on := 12, ground := Ground.textOnly Departure.lateStores }, { on := 13, ground := Ground.textOnly Departure.lateStoresUnsure }], guard := none }) (v := v6) rfl (by kernel_rfl) (by kernel_rfl) (by kernel_rfl) (fun _ _ _ h => h) (Or.inl ⟨by rfl, ?_⟩) hHeld ?_
                · intro w' hSw
                  have p0 := (hSw.x (k * 2) (by omega)).trans PX0.out
                  have p1 := (hSw.x (k * 2 + 1) (by omega)).trans PX1.out
                  have q0 := (hSw.y (k * 2) (by omega)).trans PY0.out
                  have q1 := (hSw.y (k * 2 + 1) (by omega)).trans PY1.out
                  have i18 : (k : Int) < 18 + 1 := by omega
                  go_simp
                try simp only [Act.put, List.setIfInBounds_toArray, List.set_cons_zero, List.set_cons_succ]
                refine wpAnyH_take (i := 15) (oi := { dst := some 7, op := Op.assign (Operand.tmp 45), type := _, pos := "judge.go:42", after := #[{ on := 13, ground := Ground.data }, { on := 14, ground := Ground.chain }, { on := 0, ground := Ground.phase }, { on := 1, ground := Ground.phase }, { on := 2, ground := Ground.phase }, { on := 3, ground := Ground.phase }, { on := 4, ground := Ground.phase }, { on := 5, ground := Ground.phase }, { on := 6, ground := Ground.phase }, { on := 7, ground := Ground.phase }, { on := 8, ground := Ground.phase }, { on := 9, ground := Ground.phase }, { on := 10, ground := Ground.phase }, { on := 11, ground := Ground.phase }, { on := 12, ground := Ground.phase }, { on := 13, ground := Ground.phase }, { on := 14, ground := Ground.phase }], guard := none }) (v := v13) rfl (by kernel_rfl) (by kernel_rfl) (by kernel_rfl) (fun _ _ _ h => h) (Or.inl ⟨by rfl, ?_⟩) hHeld ?_
                · intro w' hSw
                  have p0 := (hSw.x (k * 2) (by omega)).trans PX0.out
                  have p1 := (hSw.x (k * 2 + 1) (by omega)).trans PX1.out
                  have q0 := (hSw.y (k * 2) (by omega)).trans PY0.out
                  have q1 := (hSw.y (k * 2 + 1) (by omega)).trans PY1.out
                  have i18 : (k : Int) < 18 + 1 := by omega
                  go_simp
                try simp only [Act.put, List.setIfInBounds_toArray, List.set_cons_zero, List.set_cons_succ]
                refine wpAnyH_done (by kernel_rfl) ?_ _
                go_wp2_with fail
                go_roundg (gk - 1)
                case measure => omega
                case rel => exact ⟨k + 1, by omega, by go_num, by rw [HS2.out, List.flatMap_append, List.length_append]; simpa [HE6.out] using O6, by rw [HS2.out, List.flatMap_append, List.length_append]; simpa [HE7.out] using O7, hD, hHeld⟩
    · have i1 : ¬ (k : Int) < 19 := by omega
      obtain rfl : k = 19 := by omega
      go_wp2_with fail
      refine bodyPost_ret (v := .tuple #[_, _]) (by simp [results, Tryd.results27, go_sem]) rfl ⟨_, _, rfl, own_low HB2.out.size own6, own_low HB2.out.size own7, HB2.out.trans (HR.out.below.mono HB2.out.size)⟩
end Go.Proofs.YtjnakhejdpkfnaaDoor
