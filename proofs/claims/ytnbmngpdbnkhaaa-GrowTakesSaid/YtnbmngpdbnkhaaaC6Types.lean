/- The given program's types, as inputs read. Conditions: none. -/
import Derived.Test.YtnbmngpdbnkhaaaC6Own2
import Derived.Test.YtnbmngpdbnkhaaaProg
set_option linter.unusedVariables false
set_option linter.unusedSimpArgs false
set_option maxRecDepth 100000
namespace Go.Sk
open Go.Proofs.Try
theorem mixed : prog.follows .mixedOrders = true := by kernel_rfl
theorem u3 : prog.underlying 3 = some (.int .i64) := by kernel_rfl
theorem u4 : prog.underlying 4 = some (.bool) := by kernel_rfl
theorem u5 : prog.underlying 5 = some (.int .u8) := by kernel_rfl
theorem u9 : prog.underlying 9 = some (.string) := by kernel_rfl
theorem u58 : prog.underlying 58 = some (.float .f64) := by kernel_rfl
theorem u24 : prog.underlying 24 = some (.slice 5) := by kernel_rfl
theorem u25 : prog.underlying 25 = some (.slice 66) := by kernel_rfl
theorem u32 : prog.underlying 32 = some (.slice 34) := by kernel_rfl
theorem st27 : stT prog 27 = some [3, 3, 3, 3, 23, 24, 25] := by kernel_rfl
theorem st34 : stT prog 34 = some [3, 3, 3, 3, 3, 3, 3, 3, 4, 25, 23, 24, 32] := by kernel_rfl
theorem st66 : stT prog 66 = some [3, 3, 64, 23] := by kernel_rfl
theorem st64 : stT prog 64 = some [3, 3, 62] := by kernel_rfl
theorem st62 : stT prog 62 = some [3, 9, 60, 60] := by kernel_rfl
theorem st60 : stT prog 60 = some [3, 58, 9] := by kernel_rfl
theorem st23 : stT prog 23 = some [3, 3, 3, 3] := by kernel_rfl
def tys : List Nat := [3, 4, 5, 9, 23, 24, 25, 27, 28, 29, 31, 32, 34, 58, 60, 62, 64, 66, 118]
theorem tys_closed : closedT prog tys = true := by kernel_rfl
theorem idsL_append : ∀ a b : List AV, idsL (a ++ b) = idsL a ++ idsL b
  | [], b => by simp [idsL]
  | x :: xs, b => by simp [idsL, idsL_append xs b]
structure V23 where
  f0 : Int
  f1 : Int
  f2 : Int
  f3 : Int
def V23.l (v : V23) : List AV := [.int .i64 v.f0, .int .i64 v.f1, .int .i64 v.f2, .int .i64 v.f3]
structure V23.ok (v : V23) : Prop where
  h0 : (Lit.int .i64 v.f0).wf = true
  h1 : (Lit.int .i64 v.f1).wf = true
  h2 : (Lit.int .i64 v.f2).wf = true
  h3 : (Lit.int .i64 v.f3).wf = true
theorem has23 {l : List AV} (h : HasT prog 23 l) : ∃ v : V23, l = v.l ∧ v.ok := by
  have h := h.st st23
  obtain ⟨a0, r0, rfl, h0, h⟩ := h.one
  obtain ⟨a1, r1, rfl, h1, h⟩ := h.one
  obtain ⟨a2, r2, rfl, h2, h⟩ := h.one
  obtain ⟨a3, r3, rfl, h3, h⟩ := h.one
  obtain rfl := h.none
  obtain ⟨n0, rfl, w0⟩ := h0.int u3
  obtain ⟨n1, rfl, w1⟩ := h1.int u3
  obtain ⟨n2, rfl, w2⟩ := h2.int u3
  obtain ⟨n3, rfl, w3⟩ := h3.int u3
  exact ⟨⟨n0, n1, n2, n3⟩, by simp [V23.l], ⟨w0, w1, w2, w3⟩⟩
theorem V23.ids (v : V23) : idsL v.l = [] := by
  have ints : ∀ l : List Int, idsL (l.map (.int .i64)) = [] := by intro l; induction l <;> simp_all [idsL, idsV]
  simp [V23.l, idsL, idsV, slA_ids, idsL_append, ints]
structure V60 where
  f0 : Int
  f1 : Nat
  f2 : ByteArray
def V60.l (v : V60) : List AV := [.int .i64 v.f0, .flt v.f1, .str v.f2]
structure V60.ok (v : V60) : Prop where
  h0 : (Lit.int .i64 v.f0).wf = true
  h1 : (Lit.float .f64 v.f1).wf = true
  h2 : v.f2.size ≤ maxLen
theorem has60 {l : List AV} (h : HasT prog 60 l) : ∃ v : V60, l = v.l ∧ v.ok := by
  have h := h.st st60
  obtain ⟨a0, r0, rfl, h0, h⟩ := h.one
  obtain ⟨a1, r1, rfl, h1, h⟩ := h.one
  obtain ⟨a2, r2, rfl, h2, h⟩ := h.one
  obtain rfl := h.none
  obtain ⟨n0, rfl, w0⟩ := h0.int u3
  obtain ⟨n1, rfl, w1⟩ := h1.float u58
  obtain ⟨n2, rfl, w2⟩ := h2.string u9
  exact ⟨⟨n0, n1, n2⟩, by simp [V60.l], ⟨w0, w1, w2⟩⟩
theorem V60.ids (v : V60) : idsL v.l = [] := by
  have ints : ∀ l : List Int, idsL (l.map (.int .i64)) = [] := by intro l; induction l <;> simp_all [idsL, idsV]
  simp [V60.l, idsL, idsV, slA_ids, idsL_append, ints]
structure V62 where
  f0 : Int
  f1 : ByteArray
  f2 : V60
  f3 : V60
def V62.l (v : V62) : List AV := [.int .i64 v.f0, .str v.f1] ++ v.f2.l ++ v.f3.l
structure V62.ok (v : V62) : Prop where
  h0 : (Lit.int .i64 v.f0).wf = true
  h1 : v.f1.size ≤ maxLen
  h2 : v.f2.ok
  h3 : v.f3.ok
theorem has62 {l : List AV} (h : HasT prog 62 l) : ∃ v : V62, l = v.l ∧ v.ok := by
  have h := h.st st62
  obtain ⟨a0, r0, rfl, h0, h⟩ := h.one
  obtain ⟨a1, r1, rfl, h1, h⟩ := h.one
  obtain ⟨a2, r2, rfl, h2, h⟩ := h.one
  obtain ⟨a3, r3, rfl, h3, h⟩ := h.one
  obtain rfl := h.none
  obtain ⟨n0, rfl, w0⟩ := h0.int u3
  obtain ⟨n1, rfl, w1⟩ := h1.string u9
  obtain ⟨n2, rfl, w2⟩ := has60 h2
  obtain ⟨n3, rfl, w3⟩ := has60 h3
  exact ⟨⟨n0, n1, n2, n3⟩, by simp [V62.l], ⟨w0, w1, w2, w3⟩⟩
theorem V62.ids (v : V62) : idsL v.l = [] := by
  have ints : ∀ l : List Int, idsL (l.map (.int .i64)) = [] := by intro l; induction l <;> simp_all [idsL, idsV]
  simp [V62.l, idsL, idsV, slA_ids, idsL_append, V60.ids, ints]
structure V64 where
  f0 : Int
  f1 : Int
  f2 : V62
def V64.l (v : V64) : List AV := [.int .i64 v.f0, .int .i64 v.f1] ++ v.f2.l
structure V64.ok (v : V64) : Prop where
  h0 : (Lit.int .i64 v.f0).wf = true
  h1 : (Lit.int .i64 v.f1).wf = true
  h2 : v.f2.ok
theorem has64 {l : List AV} (h : HasT prog 64 l) : ∃ v : V64, l = v.l ∧ v.ok := by
  have h := h.st st64
  obtain ⟨a0, r0, rfl, h0, h⟩ := h.one
  obtain ⟨a1, r1, rfl, h1, h⟩ := h.one
  obtain ⟨a2, r2, rfl, h2, h⟩ := h.one
  obtain rfl := h.none
  obtain ⟨n0, rfl, w0⟩ := h0.int u3
  obtain ⟨n1, rfl, w1⟩ := h1.int u3
  obtain ⟨n2, rfl, w2⟩ := has62 h2
  exact ⟨⟨n0, n1, n2⟩, by simp [V64.l], ⟨w0, w1, w2⟩⟩
theorem V64.ids (v : V64) : idsL v.l = [] := by
  have ints : ∀ l : List Int, idsL (l.map (.int .i64)) = [] := by intro l; induction l <;> simp_all [idsL, idsV]
  simp [V64.l, idsL, idsV, slA_ids, idsL_append, V62.ids, ints]
structure V66 where
  f0 : Int
  f1 : Int
  f2 : V64
  f3 : V23
def V66.l (v : V66) : List AV := [.int .i64 v.f0, .int .i64 v.f1] ++ v.f2.l ++ v.f3.l
structure V66.ok (v : V66) : Prop where
  h0 : (Lit.int .i64 v.f0).wf = true
  h1 : (Lit.int .i64 v.f1).wf = true
  h2 : v.f2.ok
  h3 : v.f3.ok
theorem has66 {l : List AV} (h : HasT prog 66 l) : ∃ v : V66, l = v.l ∧ v.ok := by
  have h := h.st st66
  obtain ⟨a0, r0, rfl, h0, h⟩ := h.one
  obtain ⟨a1, r1, rfl, h1, h⟩ := h.one
  obtain ⟨a2, r2, rfl, h2, h⟩ := h.one
  obtain ⟨a3, r3, rfl, h3, h⟩ := h.one
  obtain rfl := h.none
  obtain ⟨n0, rfl, w0⟩ := h0.int u3
  obtain ⟨n1, rfl, w1⟩ := h1.int u3
  obtain ⟨n2, rfl, w2⟩ := has64 h2
  obtain ⟨n3, rfl, w3⟩ := has23 h3
  exact ⟨⟨n0, n1, n2, n3⟩, by simp [V66.l], ⟨w0, w1, w2, w3⟩⟩
theorem V66.ids (v : V66) : idsL v.l = [] := by
  have ints : ∀ l : List Int, idsL (l.map (.int .i64)) = [] := by intro l; induction l <;> simp_all [idsL, idsV]
  simp [V66.l, idsL, idsV, slA_ids, idsL_append, V64.ids, V23.ids, ints]
structure V118 where
  f0 : V64
  f1 : Int
  f2 : Int
  f3 : Int
def V118.l (v : V118) : List AV := v.f0.l ++ [.int .i64 v.f1, .int .i64 v.f2, .int .i64 v.f3]
structure V118.ok (v : V118) : Prop where
  h0 : v.f0.ok
  h1 : (Lit.int .i64 v.f1).wf = true
  h2 : (Lit.int .i64 v.f2).wf = true
  h3 : (Lit.int .i64 v.f3).wf = true
theorem V118.ids (v : V118) : idsL v.l = [] := by
  have ints : ∀ l : List Int, idsL (l.map (.int .i64)) = [] := by intro l; induction l <;> simp_all [idsL, idsV]
  simp [V118.l, idsL, idsV, slA_ids, idsL_append, V64.ids, ints]
structure V27 where
  f0 : Int
  f1 : Int
  f2 : Int
  f3 : Int
  f4 : V23
  f5 : Option (List (List AV))
  f6 : Option (List (List AV))
def V27.l (v : V27) : List AV := [.int .i64 v.f0, .int .i64 v.f1, .int .i64 v.f2, .int .i64 v.f3] ++ v.f4.l ++ [slA 5 v.f5, slA 66 v.f6]
structure V27.ok (v : V27) : Prop where
  h0 : (Lit.int .i64 v.f0).wf = true
  h1 : (Lit.int .i64 v.f1).wf = true
  h2 : (Lit.int .i64 v.f2).wf = true
  h3 : (Lit.int .i64 v.f3).wf = true
  h4 : v.f4.ok
  h5 : (∀ us ∈ slL v.f5, HasT prog 5 us) ∧ (slL v.f5).length ≤ maxLen
  h6 : (∀ us ∈ slL v.f6, HasT prog 66 us) ∧ (slL v.f6).length ≤ maxLen
theorem has27 {l : List AV} (h : HasT prog 27 l) : ∃ v : V27, l = v.l ∧ v.ok := by
  have h := h.st st27
  obtain ⟨a0, r0, rfl, h0, h⟩ := h.one
  obtain ⟨a1, r1, rfl, h1, h⟩ := h.one
  obtain ⟨a2, r2, rfl, h2, h⟩ := h.one
  obtain ⟨a3, r3, rfl, h3, h⟩ := h.one
  obtain ⟨a4, r4, rfl, h4, h⟩ := h.one
  obtain ⟨a5, r5, rfl, h5, h⟩ := h.one
  obtain ⟨a6, r6, rfl, h6, h⟩ := h.one
  obtain rfl := h.none
  obtain ⟨n0, rfl, w0⟩ := h0.int u3
  obtain ⟨n1, rfl, w1⟩ := h1.int u3
  obtain ⟨n2, rfl, w2⟩ := h2.int u3
  obtain ⟨n3, rfl, w3⟩ := h3.int u3
  obtain ⟨n4, rfl, w4⟩ := has23 h4
  obtain ⟨n5, rfl, w5, z5⟩ := h5.slice u24
  obtain ⟨n6, rfl, w6, z6⟩ := h6.slice u25
  exact ⟨⟨n0, n1, n2, n3, n4, n5, n6⟩, by simp [V27.l], ⟨w0, w1, w2, w3, w4, ⟨w5, z5⟩, ⟨w6, z6⟩⟩⟩
theorem hasA27 {x : AV} (h : HasA prog 27 x) : ∃ v : V27, x = .agg v.l ∧ v.ok := by
  obtain ⟨l, rfl, h1⟩ := h.st st27
  obtain ⟨v, rfl, k⟩ := has27 h1
  exact ⟨v, rfl, k⟩
theorem V27.ids (v : V27) : idsL v.l = [] := by
  have ints : ∀ l : List Int, idsL (l.map (.int .i64)) = [] := by intro l; induction l <;> simp_all [idsL, idsV]
  simp [V27.l, idsL, idsV, slA_ids, idsL_append, V23.ids, ints]
structure V34 where
  f0 : Int
  f1 : Int
  f2 : Int
  f3 : Int
  f4 : Int
  f5 : Int
  f6 : Int
  f7 : Int
  f8 : Bool
  f9 : Option (List (List AV))
  f10 : V23
  f11 : Option (List (List AV))
  f12 : Option (List (List AV))
def V34.l (v : V34) : List AV := [.int .i64 v.f0, .int .i64 v.f1, .int .i64 v.f2, .int .i64 v.f3, .int .i64 v.f4, .int .i64 v.f5, .int .i64 v.f6, .int .i64 v.f7, .bool v.f8, slA 66 v.f9] ++ v.f10.l ++ [slA 5 v.f11, slA 34 v.f12]
structure V34.ok (v : V34) : Prop where
  h0 : (Lit.int .i64 v.f0).wf = true
  h1 : (Lit.int .i64 v.f1).wf = true
  h2 : (Lit.int .i64 v.f2).wf = true
  h3 : (Lit.int .i64 v.f3).wf = true
  h4 : (Lit.int .i64 v.f4).wf = true
  h5 : (Lit.int .i64 v.f5).wf = true
  h6 : (Lit.int .i64 v.f6).wf = true
  h7 : (Lit.int .i64 v.f7).wf = true
  h8 : True
  h9 : (∀ us ∈ slL v.f9, HasT prog 66 us) ∧ (slL v.f9).length ≤ maxLen
  h10 : v.f10.ok
  h11 : (∀ us ∈ slL v.f11, HasT prog 5 us) ∧ (slL v.f11).length ≤ maxLen
  h12 : (∀ us ∈ slL v.f12, HasT prog 34 us) ∧ (slL v.f12).length ≤ maxLen
theorem has34 {l : List AV} (h : HasT prog 34 l) : ∃ v : V34, l = v.l ∧ v.ok := by
  have h := h.st st34
  obtain ⟨a0, r0, rfl, h0, h⟩ := h.one
  obtain ⟨a1, r1, rfl, h1, h⟩ := h.one
  obtain ⟨a2, r2, rfl, h2, h⟩ := h.one
  obtain ⟨a3, r3, rfl, h3, h⟩ := h.one
  obtain ⟨a4, r4, rfl, h4, h⟩ := h.one
  obtain ⟨a5, r5, rfl, h5, h⟩ := h.one
  obtain ⟨a6, r6, rfl, h6, h⟩ := h.one
  obtain ⟨a7, r7, rfl, h7, h⟩ := h.one
  obtain ⟨a8, r8, rfl, h8, h⟩ := h.one
  obtain ⟨a9, r9, rfl, h9, h⟩ := h.one
  obtain ⟨a10, r10, rfl, h10, h⟩ := h.one
  obtain ⟨a11, r11, rfl, h11, h⟩ := h.one
  obtain ⟨a12, r12, rfl, h12, h⟩ := h.one
  obtain rfl := h.none
  obtain ⟨n0, rfl, w0⟩ := h0.int u3
  obtain ⟨n1, rfl, w1⟩ := h1.int u3
  obtain ⟨n2, rfl, w2⟩ := h2.int u3
  obtain ⟨n3, rfl, w3⟩ := h3.int u3
  obtain ⟨n4, rfl, w4⟩ := h4.int u3
  obtain ⟨n5, rfl, w5⟩ := h5.int u3
  obtain ⟨n6, rfl, w6⟩ := h6.int u3
  obtain ⟨n7, rfl, w7⟩ := h7.int u3
  obtain ⟨n8, rfl⟩ := h8.bool u4
  obtain ⟨n9, rfl, w9, z9⟩ := h9.slice u25
  obtain ⟨n10, rfl, w10⟩ := has23 h10
  obtain ⟨n11, rfl, w11, z11⟩ := h11.slice u24
  obtain ⟨n12, rfl, w12, z12⟩ := h12.slice u32
  exact ⟨⟨n0, n1, n2, n3, n4, n5, n6, n7, n8, n9, n10, n11, n12⟩, by simp [V34.l], ⟨w0, w1, w2, w3, w4, w5, w6, w7, trivial, ⟨w9, z9⟩, w10, ⟨w11, z11⟩, ⟨w12, z12⟩⟩⟩
theorem hasA34 {x : AV} (h : HasA prog 34 x) : ∃ v : V34, x = .agg v.l ∧ v.ok := by
  obtain ⟨l, rfl, h1⟩ := h.st st34
  obtain ⟨v, rfl, k⟩ := has34 h1
  exact ⟨v, rfl, k⟩
theorem V34.ids (v : V34) : idsL v.l = [] := by
  have ints : ∀ l : List Int, idsL (l.map (.int .i64)) = [] := by intro l; induction l <;> simp_all [idsL, idsV]
  simp [V34.l, idsL, idsV, slA_ids, idsL_append, V23.ids, ints]
structure V31 where
  f0 : Int
  f1 : V27
  f2 : Int
  f3 : Int
  f4 : Int
  f5 : Int
  f6 : Int
  f7 : Int
  f8 : Int
  f9 : List Int
  f10 : List Int
  f11 : List Int
  f12 : Option (List (List AV))
def V31.l (v : V31) : List AV := [.int .i64 v.f0] ++ v.f1.l ++ [.int .i64 v.f2, .int .i64 v.f3, .int .i64 v.f4, .int .i64 v.f5, .int .i64 v.f6, .int .i64 v.f7, .int .i64 v.f8, .arr (v.f9.map (.int .i64)), .arr (v.f10.map (.int .i64)), .arr (v.f11.map (.int .i64)), slA 118 v.f12]
structure V31.ok (v : V31) : Prop where
  h0 : (Lit.int .i64 v.f0).wf = true
  h1 : v.f1.ok
  h2 : (Lit.int .i64 v.f2).wf = true
  h3 : (Lit.int .i64 v.f3).wf = true
  h4 : (Lit.int .i64 v.f4).wf = true
  h5 : (Lit.int .i64 v.f5).wf = true
  h6 : (Lit.int .i64 v.f6).wf = true
  h7 : (Lit.int .i64 v.f7).wf = true
  h8 : (Lit.int .i64 v.f8).wf = true
  h9 : v.f9.length = 7 ∧ ∀ n ∈ v.f9, (Lit.int .i64 n).wf = true
  h10 : v.f10.length = 7 ∧ ∀ n ∈ v.f10, (Lit.int .i64 n).wf = true
  h11 : v.f11.length = 7 ∧ ∀ n ∈ v.f11, (Lit.int .i64 n).wf = true
  h12 : (∀ us ∈ slL v.f12, HasT prog 118 us) ∧ (slL v.f12).length ≤ maxLen
theorem V31.ids (v : V31) : idsL v.l = [] := by
  have ints : ∀ l : List Int, idsL (l.map (.int .i64)) = [] := by intro l; induction l <;> simp_all [idsL, idsV]
  simp [V31.l, idsL, idsV, slA_ids, idsL_append, V27.ids, ints]
end Go.Sk
