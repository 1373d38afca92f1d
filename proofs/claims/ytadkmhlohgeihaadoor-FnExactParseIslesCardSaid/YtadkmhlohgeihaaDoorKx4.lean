/- Go functions of this seat as plain functions, each with the proof that its call comes to what that function says: written by this session's program (wip/drive.py) out of the translation, by the kit's printer and by texts of our own; no conditions. -/
import Derived.Test.YtadkmhlohgeihaaDoorKx0
import Derived.Test.YtadkmhlohgeihaaDoorKx1
import Derived.Test.YtadkmhlohgeihaaDoorKx3
import Derived.Laws.Runes
import Derived.Lib.Bytealg
import Derived.Lib.OthersKept
import Derived.Shelf.Small.Utf8
import Derived.Shelf.Strconv.AtoiAll
import Derived.Shelf.Strings.FieldsFuncGrows
import Derived.Shelf.Strings.Runes
import Derived.WalkMore
namespace Go.Proofs.YtadkmhlohgeihaaDoor.K
open Go.RowKit Go.Proofs.YtadkmhlohgeihaaDoorW.PrintWords Go.Proofs.YtadkmhlohgeihaaDoorW.PrintLast Go.Proofs.YtadkmhlohgeihaaDoorW.PrintMore
attribute [local go_sem] max2_int min2_int max_two min_two max_three min_three max_four min_four   -- for this text's walks alone
set_option linter.unusedVariables false
set_option linter.unusedSimpArgs false

/-! ### impl_numbers: function 19 -/
/-- The shelf's numbers turned to this program's. -/
def rhoIB : Go.Shelf.Ren := ⟨fun n => if n = 137 then 55 else if n = 217 then 65 else if n = 266 then 77 else n, fun n => if n = 3 then 3 else if n = 5 then 5 else if n = 9 then 9 else n, fun n => n⟩
set_option maxRecDepth 100000 in
theorem layIB : Go.Proofs.Lays.n137 Tryd.prog rhoIB where
  mixed := by kernel_rfl
  f137 := by kernel_rfl
  f217 := by kernel_rfl
  f266 := by kernel_rfl
  t3 := by kernel_rfl
  a3 := fun _ => by kernel_rfl
  z3 := fun _ => by kernel_rfl
  v3 := fun _ => by kernel_rfl
  t5 := by kernel_rfl
  a5 := fun _ => by kernel_rfl
  z5 := fun _ => by kernel_rfl
  v5 := fun _ => by kernel_rfl
  t9 := by kernel_rfl
  a9 := fun _ => by kernel_rfl
  z9 := fun _ => by kernel_rfl
  v9 := fun _ => by kernel_rfl
/-- The shelf's numbers turned to this program's. -/
def rhoVR : Go.Shelf.Ren := ⟨fun n => if n = 119 then 56 else n, fun n => if n = 4 then 4 else if n = 21 then 21 else n, fun n => n⟩
set_option maxRecDepth 100000 in
theorem layVR : Go.Proofs.Lays.n119 Tryd.prog rhoVR where
  mixed := by kernel_rfl
  f119 := by kernel_rfl
  t4 := by kernel_rfl
  a4 := fun _ => by kernel_rfl
  z4 := fun _ => by kernel_rfl
  v4 := fun _ => by kernel_rfl
  t21 := by kernel_rfl
  a21 := fun _ => by kernel_rfl
  z21 := fun _ => by kernel_rfl
  v21 := fun _ => by kernel_rfl
theorem e_IndexByte : ∀ args w, (callFunc 55 args).run Tryd.prog w = .ok (.enter 55 args) w := enters_of Tryd.func55 (by kernel_rfl) rfl
theorem e_ValidRune : ∀ args w, (callFunc 56 args).run Tryd.prog w = .ok (.enter 56 args) w := enters_of Tryd.func56 (by kernel_rfl) rfl
/-- Whether a text of ASCII bytes holds a rune. -/
def runeIdx (s : ByteArray) (x : Nat) : Int := if x < 128 then Lib.indexByte s.data.toList x.toUInt8 else -1
def ascii (s : ByteArray) : Prop := ∀ b ∈ s.data.toList, b.toNat < 128
theorem ascii_at {s : ByteArray} (h : ascii s) (i : Nat) (hi : i < s.size) : (s[i]'hi).toNat < 128 := h _ (Array.getElem_mem_toList (xs := s.data) hi)
theorem indexByte_high {s : ByteArray} (h : ascii s) (a e : Nat) (c : UInt8) (hc : 128 ≤ c.toNat) : Lib.indexByte (s.extract a e).data.toList c = -1 := by
  rw [← Lib.firstIdx_eq]
  exact firstIdx_ascii s a e c h hc

set_option maxHeartbeats 4000000 in
set_option maxRecDepth 1000000 in
theorem indexRune_wide (s : ByteArray) (ha : ascii s) (hs : s.size ≤ 1048576) (x : Nat) (hx : x ≤ 1114111) (h1 : ¬ x < 128) (h3 : ¬ x = 65533) (h5 : Lib.validRune (x : Int) = true) (w : World) :
    Calls Tryd.prog 45 #[.string s, .int .i32 (x : Int)] w fun e w' => e = .returned (.int .i64 (-1)) ∧ Below w.heap.size w w' := by
  have h0 : (0 : Int) ≤ (x : Int) := by omega
  have h2 : ¬ (x : Int) < 128 := by omega
  have h4 : ¬ (x : Int) = 65533 := by omega
  have hv : Utf8.valid (x : Int) = true := by
    rw [validRune_eq]
    exact h5
  obtain ⟨rs, m, hrs, hsize, hm1, hm3, hr4⟩ : ∃ (rs : ByteArray) (m : Nat), Utf8.encode (x : Int) = rs ∧ rs.size = m + 1 ∧ 1 ≤ m ∧ m ≤ 3 ∧ ∀ h : m < rs.size, 128 ≤ (rs[m]'h).toNat := by
    obtain ⟨hr1, hr2, hr3⟩ := encode_facts (x : Int) hv (by omega)
    exact ⟨Utf8.encode (x : Int), (Utf8.encode (x : Int)).size - 1, rfl, by omega, by omega, by omega, hr3⟩
  have hmr : m < rs.size := by omega
  obtain ⟨c, hc⟩ : ∃ c, (rs[m]'hmr) = c := ⟨_, rfl⟩
  have hc4 := hr4 hmr
  rw [hc] at hc4
  have HSZ := Aside0.mk hsize
  have hsz : (rs.size : Int) - 1 = (m : Int) := by omega
  have ha_ := Aside0.mk ha
  clear ha hr4 hsize
  have hcv : ∀ W, (convert 21 9 (.int .i32 (x : Int))).run Tryd.prog W = .ok (.string rs) W := fun W => by
    rw [run_convert_int_string W 21 9 .i32 (x : Int) (by kernel_rfl) (by kernel_rfl), hrs]
  clear hrs hv
  go_enter Tryd.func45, Tryd.ntmps45
  have hvr : ∀ W, Calls Tryd.prog 56 #[.int .i32 (x : Int)] W fun e w' => e = .returned (.bool true) ∧ w' = W := fun W => h5 ▸ Any.utf8_ValidRune layVR (x : Int) W
  clear h5
  go_upto_if 183 with (first | go_step3 | (go_at_call 56; refine (hvr _).mono ?_; rintro e w' ⟨rfl, hw⟩; rw [hw]; clear hw w'))
  go_upto_block 1 with go_step3
  go_wp2_with (first | go_step3)
  go_loopg [9] 1 (fun gf s9 wx => s9 = .int .i64 (m : Int) ∧ wx = w)
  case atStart => exact ⟨rfl, rfl⟩
  case round =>
    obtain ⟨rfl, rfl⟩ := hrel
    by_cases h6 : m < s.size
    · have h6' : (m : Int) < (s.size : Int) := by omega
      have hx6 := ascii_at ha_.out m h6
      obtain ⟨d, hd⟩ : ∃ d, (s[m]'h6) = d := ⟨_, rfl⟩
      rw [hd] at hx6
      have hne : ¬ ((d.toNat : Int) = (c.toNat : Int)) := by omega
      have hne' : ((d.toNat : Int) == (c.toNat : Int)) = false := by simpa using hne
      have hm1' : (m : Int) + 1 ≤ (s.size : Int) := by omega
      have hw1 : IntKind.i64.wrap ((m : Int) + 1) = (m : Int) + 1 := wrap_small _ (by omega) (by omega)
      have hm0' : (0 : Int) ≤ (m : Int) + 1 := by omega
      have htn : ((m : Int) + 1).toNat = m + 1 := by omega
      have hib : ∀ W, Calls Tryd.prog 55 #[.string (s.extract (m + 1) s.size), .int .u8 (c.toNat : Int)] W fun e w' => e = .returned (.int .i64 (-1)) ∧ w' = W := fun W => by
        have h := Any.strings_IndexByte layIB (s.extract (m + 1) s.size) (c.toNat : Int) W
        rw [indexByte_high ha_.out (m + 1) s.size _ (by simpa using hc4)] at h
        exact h
      go_wp2_with (first | go_step3 | (go_quiet ((go_at_call 55; refine (hib _).mono ?_; rintro e w' ⟨rfl, rfl⟩; exact ⟨rfl, _, rfl⟩))))
      simp only [Exit.noGoto, Exit.inBlock, Exit.then]
      go_ret
      exact ⟨rfl, pw_below_drewN (Below.refl _ _) _⟩
    · have h6' : ¬ (m : Int) < (s.size : Int) := by omega
      go_wp2_with (first | go_step3)
      go_ret
      exact ⟨rfl, Below.refl _ _⟩
set_option maxHeartbeats 4000000 in
set_option maxRecDepth 1000000 in
theorem indexRune_calls (s : ByteArray) (ha : ascii s) (hs : s.size ≤ 1048576) (x : Nat) (hx : x ≤ 1114111) (w : World) :
    Calls Tryd.prog 45 #[.string s, .int .i32 (x : Int)] w fun e w' => e = .returned (.int .i64 (runeIdx s x)) ∧ Below w.heap.size w w' := by
  by_cases h1 : x < 128
  · have h0 : (0 : Int) ≤ (x : Int) := by omega
    have h2 : (x : Int) < 128 := by omega
    have e : runeIdx s x = Lib.indexByte s.data.toList ((x : Int).toNat).toUInt8 := by unfold runeIdx; rw [if_pos h1, Int.toNat_natCast]
    rw [e]
    go_enter Tryd.func45, Tryd.ntmps45
    go_wp2_with (go_at_call 55; refine (Any.strings_IndexByte layIB _ _ _).mono ?_; rintro e w' ⟨rfl, hw⟩; rw [hw])
    go_ret
    exact ⟨rfl, Below.refl _ _⟩
  · have h0 : (0 : Int) ≤ (x : Int) := by omega
    have h2 : ¬ (x : Int) < 128 := by omega
    have e : runeIdx s x = -1 := by unfold runeIdx; rw [if_neg h1]
    rw [e]
    by_cases h3 : x = 65533
    · subst h3
      have ha_ := Aside0.mk ha
      clear ha
      go_enter Tryd.func45, Tryd.ntmps45
      go_wp2
      go_loopg [5, 6] s.size (fun gf s5 s6 wx => ∃ pos : Nat, wx.heap[w.heap.size]? = some (.stringIter s pos) ∧ Below w.heap.size w wx ∧ pos + gf = s.size)
      case atStart => exact ⟨0, World.iter_heap w s 0, (Below.refl _ w).alloc (Nat.le_refl _) _, by omega⟩
      case round =>
        obtain ⟨pos, hit, hbw, hfu⟩ := hrel
        by_cases hps : pos < s.size
        · obtain ⟨g', rfl⟩ : ∃ g', gk = g' + 1 := ⟨gk - 1, by omega⟩
          have hnx : ∀ ty, (Instr.next (.pointer (some ⟨w.heap.size, 0, none⟩)) true ty).run Tryd.prog wr = _ := fun ty => Lib.run_next_any_at wr w.heap.size s pos ty hit hps
          have hlt := ascii_at ha_.out pos hps
          rw [decode_ascii s pos hps hlt] at hnx
          dsimp only at hnx
          obtain ⟨R, hR⟩ : ∃ R, (s[pos]'hps).toNat = R := ⟨_, rfl⟩
          rw [hR] at hnx hlt
          have hne : ¬ ((R : Int) = 65533) := by omega
          have hit2 := Lib.iterAt_heap wr w.heap.size s pos (pos + 1) hit
          have hbw2 := Lib.below_iterAt hbw (k := w.heap.size) (Nat.le_refl _) s (pos + 1)
          obtain ⟨W, hWd⟩ : ∃ W, wr.iterAt w.heap.size s (pos + 1) = W := ⟨_, rfl⟩
          rw [hWd] at hnx hit2 hbw2
          clear hit hbw hR
          go_wp2
          go_roundg g'
          case measure => omega
          case rel => exact ⟨pos + 1, hit2, hbw2, by omega⟩
        · have hnx : ∀ ty, (Instr.next (.pointer (some ⟨w.heap.size, 0, none⟩)) true ty).run Tryd.prog wr = _ := fun ty => Lib.run_next_end_at wr w.heap.size s pos ty hit hps
          go_wp2
          go_ret
          exact ⟨rfl, hbw⟩
    · have h4 : ¬ (x : Int) = 65533 := by omega
      by_cases h5 : Lib.validRune (x : Int) = true
      · exact indexRune_wide s ha hs x hx h1 h3 h5 w
      · have h5' : Lib.validRune (x : Int) = false := Bool.eq_false_iff.2 h5
        have hvr : ∀ W, Calls Tryd.prog 56 #[.int .i32 (x : Int)] W fun e w' => e = .returned (.bool false) ∧ w' = W := fun W => h5' ▸ Any.utf8_ValidRune layVR (x : Int) W
        clear h5 h5'
        go_enter Tryd.func45, Tryd.ntmps45
        go_wp2_with (first | go_step3 | (go_at_call 56; refine (hvr _).mono ?_; rintro e w' ⟨rfl, hw⟩; rw [hw]; clear hw w'))
        all_goals (try simp only [Exit.noGoto, Exit.inBlock, Exit.then])
        go_ret
        exact ⟨rfl, Below.refl _ _⟩
theorem e_IndexRune : ∀ args w, (callFunc 45 args).run Tryd.prog w = .ok (.enter 45 args) w := enters_of Tryd.func45 (by kernel_rfl) rfl
theorem e_ContainsRune : ∀ args w, (callFunc 34 args).run Tryd.prog w = .ok (.enter 34 args) w := enters_of Tryd.func34 (by kernel_rfl) rfl
def hasRune (s : ByteArray) (x : Nat) : Bool := decide (0 ≤ runeIdx s x)
set_option maxHeartbeats 2000000 in
theorem containsRune_calls (s : ByteArray) (ha : ascii s) (hs : s.size ≤ 1048576) (x : Nat) (hx : x ≤ 1114111) (w : World) :
    Calls Tryd.prog 34 #[.string s, .int .i32 (x : Int)] w fun e w' => e = .returned (.bool (hasRune s x)) ∧ Below w.heap.size w w' := by
  have hc := indexRune_calls s ha hs x hx w
  unfold hasRune
  obtain ⟨I, hI⟩ : ∃ I, runeIdx s x = I := ⟨_, rfl⟩
  rw [hI] at hc ⊢
  clear ha
  go_enter Tryd.func34, Tryd.ntmps34
  go_wp2_with (go_at_call 45; refine hc.mono ?_; rintro e w' ⟨rfl, hw⟩)
  go_ret
  exact ⟨rfl, hw⟩
set_option maxHeartbeats 2000000 in
/-- impl.numbers' own function: whether a rune is a sign; its variable lies in block g. -/
theorem isSign_calls (s : ByteArray) (ha : ascii s) (hs : s.size ≤ 1048576) (g x : Nat) (hx : x ≤ 1114111) (w : World) (hg : w.cell? ⟨g, 0, none⟩ = some (.string s)) :
    Calls Tryd.prog 33 #[.int .i32 (x : Int), .pointer (some ⟨g, 0, none⟩)] w fun e w' => e = .returned (.bool (hasRune s x)) ∧ Below w.heap.size w w' := by
  have hc := containsRune_calls s ha hs x hx
  obtain ⟨I, hI⟩ : ∃ I, hasRune s x = I := ⟨_, rfl⟩
  rw [hI] at hc ⊢
  clear ha
  go_enter Tryd.func33, Tryd.ntmps33
  go_wp2_with (go_at_call 34; refine (hc _).mono ?_; rintro e w' ⟨rfl, hw⟩)
  go_ret
  exact ⟨rfl, hw⟩
theorem e_isSign : ∀ args w, (callFunc 33 args).run Tryd.prog w = .ok (.enter 33 args) w := enters_of Tryd.func33 (by kernel_rfl) rfl
theorem isSign_grows (s : ByteArray) (ha : ascii s) (hs : s.size ≤ 1048576) (g : Nat) (w : World) (hg : w.cell? ⟨g, 0, none⟩ = some (.string s)) : PredGrows Tryd.prog 33 #[.pointer (some ⟨g, 0, none⟩)] (hasRune s) w := by
  intro W x hx hb
  exact isSign_calls s ha hs g x hx W ((hb.cell (p := ⟨g, 0, none⟩) (World.block_lt_of_cell? w _ hg)).trans hg)
/-- The shelf's numbers turned to this program's. -/
def rhoAtoi : Go.Shelf.Ren := ⟨fun n => if n = 129 then 82 else if n = 171 then 38 else if n = 172 then 46 else if n = 205 then 80 else if n = 243 then 49 else if n = 244 then 59 else if n = 245 then 60 else if n = 246 then 62 else if n = 247 then 66 else if n = 279 then 67 else if n = 280 then 68 else if n = 281 then 69 else if n = 282 then 70 else if n = 283 then 71 else if n = 284 then 72 else if n = 285 then 73 else if n = 286 then 74 else if n = 287 then 78 else if n = 316 then 79 else if n = 317 then 81 else if n = 318 then 83 else if n = 319 then 84 else if n = 320 then 85 else if n = 321 then 86 else if n = 322 then 87 else if n = 337 then 88 else if n = 338 then 89 else n, fun n => if n = 0 then 0 else if n = 2 then 2 else if n = 3 then 3 else if n = 4 then 4 else if n = 5 then 5 else if n = 9 then 9 else if n = 20 then 20 else if n = 21 then 21 else if n = 37 then 63 else if n = 46 then 83 else if n = 51 then 112 else if n = 53 then 96 else if n = 75 then 69 else if n = 76 then 70 else if n = 80 then 78 else if n = 85 then 90 else if n = 127 then 88 else if n = 143 then 116 else if n = 145 then 118 else if n = 167 then 89 else if n = 168 then 92 else if n = 171 then 95 else if n = 173 then 99 else if n = 175 then 104 else if n = 210 then 108 else if n = 212 then 111 else if n = 213 then 113 else if n = 232 then 120 else if n = 233 then 121 else n, fun n => if n = 15 then 1 else if n = 16 then 2 else if n = 17 then 3 else if n = 18 then 4 else if n = 19 then 5 else n⟩
set_option maxRecDepth 100000 in
theorem layAtoi0 : Go.Proofs.Lays.n172 Tryd.prog rhoAtoi where
  mixed := by kernel_rfl
  f129 := by kernel_rfl
  f171 := by kernel_rfl
  f172 := by kernel_rfl
  f205 := by kernel_rfl
  f243 := by kernel_rfl
  f244 := by kernel_rfl
  f245 := by kernel_rfl
  f246 := by kernel_rfl
  f247 := by kernel_rfl
  f279 := by kernel_rfl
  f280 := by kernel_rfl
  f281 := by kernel_rfl
  f282 := by kernel_rfl
  f283 := by kernel_rfl
  f284 := by kernel_rfl
  f285 := by kernel_rfl
  f286 := by kernel_rfl
  f287 := by kernel_rfl
  f316 := by kernel_rfl
  f317 := by kernel_rfl
  f318 := by kernel_rfl
  f319 := by kernel_rfl
  f320 := by kernel_rfl
  f321 := by kernel_rfl
  f322 := by kernel_rfl
  f337 := by kernel_rfl
  f338 := by kernel_rfl
  t0 := by kernel_rfl
  a0 := fun _ => by kernel_rfl
  z0 := fun _ => by kernel_rfl
  v0 := fun _ => by kernel_rfl
  t2 := by kernel_rfl
  a2 := fun _ => by kernel_rfl
  z2 := fun _ => by kernel_rfl
  v2 := fun _ => by kernel_rfl
  t3 := by kernel_rfl
  a3 := fun _ => by kernel_rfl
  z3 := fun _ => by kernel_rfl
  v3 := fun _ => by kernel_rfl
  t4 := by kernel_rfl
  a4 := fun _ => by kernel_rfl
  z4 := fun _ => by kernel_rfl
  v4 := fun _ => by kernel_rfl
  t5 := by kernel_rfl
  a5 := fun _ => by kernel_rfl
  z5 := fun _ => by kernel_rfl
  v5 := fun _ => by kernel_rfl
  t9 := by kernel_rfl
  a9 := fun _ => by kernel_rfl
  z9 := fun _ => by kernel_rfl
  v9 := fun _ => by kernel_rfl
  t20 := by kernel_rfl
  a20 := fun _ => by kernel_rfl
  z20 := fun _ => by kernel_rfl
  v20 := fun _ => by kernel_rfl
  t21 := by kernel_rfl
  a21 := fun _ => by kernel_rfl
  z21 := fun _ => by kernel_rfl
  v21 := fun _ => by kernel_rfl
  t37 := by kernel_rfl
  a37 := fun _ => by kernel_rfl
  z37 := fun _ => by kernel_rfl
  v37 := fun _ => by kernel_rfl
  t46 := by kernel_rfl
  a46 := fun _ => by kernel_rfl
  z46 := fun _ => by kernel_rfl
  v46 := fun _ => by kernel_rfl
  t51 := by kernel_rfl
  a51 := fun _ => by kernel_rfl
  z51 := fun _ => by kernel_rfl
  v51 := fun _ => by kernel_rfl
  t53 := by kernel_rfl
  a53 := fun _ => by kernel_rfl
  z53 := fun _ => by kernel_rfl
  v53 := fun _ => by kernel_rfl
  t75 := by kernel_rfl
  a75 := fun _ => by kernel_rfl
  z75 := fun _ => by kernel_rfl
  v75 := fun _ => by kernel_rfl
  t76 := by kernel_rfl
  a76 := fun _ => by kernel_rfl
  z76 := fun _ => by kernel_rfl
  v76 := fun _ => by kernel_rfl
  t85 := by kernel_rfl
  a85 := fun _ => by kernel_rfl
  z85 := fun _ => by kernel_rfl
  v85 := fun _ => by kernel_rfl
  t127 := by kernel_rfl
  a127 := fun _ => by kernel_rfl
  z127 := fun _ => by kernel_rfl
  v127 := fun _ => by kernel_rfl
  t143 := by kernel_rfl
  a143 := fun _ => by kernel_rfl
  z143 := fun _ => by kernel_rfl
  v143 := fun _ => by kernel_rfl
  t145 := by kernel_rfl
  a145 := fun _ => by kernel_rfl
  z145 := fun _ => by kernel_rfl
  v145 := fun _ => by kernel_rfl
  t167 := by kernel_rfl
  a167 := fun _ => by kernel_rfl
  z167 := fun _ => by kernel_rfl
  v167 := fun _ => by kernel_rfl
  t168 := by kernel_rfl
  a168 := fun _ => by kernel_rfl
  z168 := fun _ => by kernel_rfl
  v168 := fun _ => by kernel_rfl
  t171 := by kernel_rfl
  a171 := fun _ => by kernel_rfl
  z171 := fun _ => by kernel_rfl
  v171 := fun _ => by kernel_rfl
  t173 := by kernel_rfl
  a173 := fun _ => by kernel_rfl
  z173 := fun _ => by kernel_rfl
  v173 := fun _ => by kernel_rfl
  t175 := by kernel_rfl
  a175 := fun _ => by kernel_rfl
  z175 := fun _ => by kernel_rfl
  v175 := fun _ => by kernel_rfl
  t210 := by kernel_rfl
  a210 := fun _ => by kernel_rfl
  z210 := fun _ => by kernel_rfl
  v210 := fun _ => by kernel_rfl
  t212 := by kernel_rfl
  a212 := fun _ => by kernel_rfl
  z212 := fun _ => by kernel_rfl
  v212 := fun _ => by kernel_rfl
  t213 := by kernel_rfl
  a213 := fun _ => by kernel_rfl
  z213 := fun _ => by kernel_rfl
  t232 := by kernel_rfl
  a232 := fun _ => by kernel_rfl
  z232 := fun _ => by kernel_rfl
  v232 := fun _ => by kernel_rfl
  t233 := by kernel_rfl
  a233 := fun _ => by kernel_rfl
  z233 := fun _ => by kernel_rfl
  v233 := fun _ => by kernel_rfl
  g15 := by kernel_rfl
  g16 := by kernel_rfl
  g17 := by kernel_rfl
  g18 := by kernel_rfl
  g19 := by kernel_rfl
set_option maxRecDepth 100000 in
theorem layAtoi1 : Go.Proofs.LaysM.n172 Tryd.prog rhoAtoi where
  ton172 := layAtoi0
  t80 := by kernel_rfl
  a80 := fun _ => by kernel_rfl
  z80 := fun _ => by kernel_rfl
  v80 := fun _ => by kernel_rfl
  i0 := by kernel_rfl
  i2 := by kernel_rfl
  i3 := by kernel_rfl
  i4 := by kernel_rfl
  i5 := by kernel_rfl
  i9 := by kernel_rfl
  i20 := by kernel_rfl
  i21 := by kernel_rfl
  i37 := by kernel_rfl
  i46 := by kernel_rfl
  i51 := by kernel_rfl
  i53 := by kernel_rfl
  i75 := by kernel_rfl
  i76 := by kernel_rfl
  i80 := by kernel_rfl
  i85 := by kernel_rfl
  i127 := by kernel_rfl
  i143 := by kernel_rfl
  i145 := by kernel_rfl
  i167 := by kernel_rfl
  i168 := by kernel_rfl
  i171 := by kernel_rfl
  i173 := by kernel_rfl
  i175 := by kernel_rfl
  i210 := by kernel_rfl
  i212 := by kernel_rfl
  i232 := by kernel_rfl
  i233 := by kernel_rfl
  m15 := by kernel_rfl
  m16 := by kernel_rfl
  m17 := by kernel_rfl
  m18 := by kernel_rfl
  m19 := by kernel_rfl
set_option maxRecDepth 100000 in
theorem layAtoi : Go.Proofs.LaysC.n172 Tryd.prog rhoAtoi where
  toM := layAtoi1
  c0 := by kernel_rfl
  c2 := by kernel_rfl
  c3 := by kernel_rfl
  c4 := by kernel_rfl
  c5 := by kernel_rfl
  c9 := by kernel_rfl
  c20 := by kernel_rfl
  c21 := by kernel_rfl
  c37 := by kernel_rfl
  c46 := by kernel_rfl
  c51 := by kernel_rfl
  c53 := by kernel_rfl
  c75 := by kernel_rfl
  c76 := by kernel_rfl
  c80 := by kernel_rfl
  c85 := by kernel_rfl
  c127 := by kernel_rfl
  c143 := by kernel_rfl
  c145 := by kernel_rfl
  c167 := by kernel_rfl
  c168 := by kernel_rfl
  c171 := by kernel_rfl
  c173 := by kernel_rfl
  c175 := by kernel_rfl
  c210 := by kernel_rfl
  c212 := by kernel_rfl
  c213 := by kernel_rfl
  c232 := by kernel_rfl
  c233 := by kernel_rfl
/-- What impl.number answers. -/
def numberOf (s : ByteArray) (most : Int) : Int × Bool :=
  match Lib.atoiAll s.data.toList with
  | .ok v => if (⟨(Lib.itoa v).toArray⟩ : ByteArray) = s ∧ 0 ≤ v ∧ v ≤ most then (v, true) else (0, false)
  | _ => (0, false)
set_option maxHeartbeats 4000000 in
theorem number_calls (s : ByteArray) (hs : s.size ≤ 1048576) (most : Int) (w : World) (htab : Tab w) :
    Calls Tryd.prog 35 #[.string s, .int .i64 most] w fun e w' => e = .returned (.tuple #[.int .i64 (numberOf s most).1, .bool (numberOf s most).2]) ∧ Below w.heap.size w w' := by
  have HT := Aside0.mk htab
  clear htab
  cases hA : Lib.atoiAll s.data.toList
  · rename_i v
    have hbd := Lib.atoiAll_bounds hA
    have hc0 := Any.strconv_Atoi_ok layAtoi s (by omega) v hA w
    have hc : Calls Tryd.prog 46 #[.string s] w fun e w' => e = .returned (.tuple #[.int .i64 v, .nilIface]) ∧ Below w.heap.size w w' := by
      refine hc0.mono ?_
      rintro e w' ⟨rfl, hW⟩
      refine ⟨rfl, ?_⟩
      rcases hW with rfl | ⟨t, rfl⟩
      · exact Below.refl _ _
      · exact Lib.bytesWorld_below _ _ _
    obtain ⟨u, hu⟩ : ∃ u, (⟨(Lib.itoa v).toArray⟩ : ByteArray) = u := ⟨_, rfl⟩
    have hi : ∀ W, Tab W → Calls Tryd.prog 38 #[.int .i64 v] W fun e w' => e = .returned (.string u) ∧ Below W.heap.size W w' := fun W hW =>
      strconv_Itoa_38.calls v u W (by unfold strconv_Itoa_38.f; rw [if_pos hbd, hu]) hW
    have e : numberOf s most = if u = s ∧ 0 ≤ v ∧ v ≤ most then (v, true) else (0, false) := by unfold numberOf; rw [hA]; dsimp only; rw [hu]
    rw [e]
    clear hA hc0 hu e
    have hwi : ∀ (b : Bool), impl_within.f v 0 most = some b → ∀ W, Calls Tryd.prog 36 #[.int .i64 v, .int .i64 0, .int .i64 most] W fun e w' => e = .returned (.bool b) ∧ Below W.heap.size W w' := fun b h W =>
      (impl_within.calls v 0 most b W h).mono fun _ _ ⟨h1, h2⟩ => ⟨h1, h2.below⟩
    by_cases h1 : u = s
    · subst h1
      by_cases h2 : 0 ≤ v ∧ v ≤ most
      · rw [if_pos ⟨rfl, h2⟩]
        have hw := hwi true (by unfold impl_within.f; rw [if_pos h2.1, decide_eq_true h2.2])
        clear hwi h2
        go_enter Tryd.func35, Tryd.ntmps35
        go_wp2_with (first
          | (go_at_call 46; refine hc.mono ?_; rintro e w1 ⟨rfl, hb1⟩; have HB1 := Aside0.mk hb1; clear hb1)
          | (go_at_call 38; refine (hi _ (HT.out.below HB1.out)).mono ?_; rintro e w2 ⟨rfl, hb2⟩; have HB2 := Aside0.mk (below_step HB1.out hb2); clear hb2)
          | (go_at_call 36; refine (hw _).mono ?_; rintro e w3 ⟨rfl, hb3⟩; have HB3 := Aside0.mk (below_step HB2.out hb3); clear hb3))
        go_ret2
        exact ⟨rfl, HB3.out⟩
      · rw [if_neg (fun h => h2 h.2)]
        have hw := hwi false (by
          unfold impl_within.f
          by_cases h3 : 0 ≤ v
          · rw [if_pos h3, decide_eq_false (fun h => h2 ⟨h3, h⟩)]
          · rw [if_neg h3])
        clear hwi h2
        go_enter Tryd.func35, Tryd.ntmps35
        go_wp2_with (first
          | (go_at_call 46; refine hc.mono ?_; rintro e w1 ⟨rfl, hb1⟩; have HB1 := Aside0.mk hb1; clear hb1)
          | (go_at_call 38; refine (hi _ (HT.out.below HB1.out)).mono ?_; rintro e w2 ⟨rfl, hb2⟩; have HB2 := Aside0.mk (below_step HB1.out hb2); clear hb2)
          | (go_at_call 36; refine (hw _).mono ?_; rintro e w3 ⟨rfl, hb3⟩; have HB3 := Aside0.mk (below_step HB2.out hb3); clear hb3))
        go_ret2
        exact ⟨rfl, HB3.out⟩
    · rw [if_neg (fun h => h1 h.1)]
      have h1a : ¬ u.toList = s.toList := fun h => h1 (by
        rw [ByteArray.toList_eq, ByteArray.toList_eq] at h
        exact ByteArray.ext (Array.toList_inj.1 h))
      have h1b : (u.toList == s.toList) = false := beq_eq_false_iff_ne.mpr h1a
      have h1c : (u.toList != s.toList) = true := bne_iff_ne.mpr h1a
      clear hwi
      go_enter Tryd.func35, Tryd.ntmps35
      go_wp2_with (first
          | (go_at_call 46; refine hc.mono ?_; rintro e w1 ⟨rfl, hb1⟩; have HB1 := Aside0.mk hb1; clear hb1)
          | (go_at_call 38; refine (hi _ (HT.out.below HB1.out)).mono ?_; rintro e w2 ⟨rfl, hb2⟩; have HB2 := Aside0.mk (below_step HB1.out hb2); clear hb2))
      go_ret2
      exact ⟨rfl, HB2.out⟩
  · have e : numberOf s most = (0, false) := by unfold numberOf; rw [hA]
    rw [e]
    obtain ⟨te, pe, hv⟩ := HT.out.2.1
    have hc := Any.strconv_Atoi_syntax layAtoi s (by omega) hA (.iface te pe) w hv (Or.inr ⟨te, pe, rfl⟩)
    clear hv hA e
    go_enter Tryd.func35, Tryd.ntmps35
    go_wp2_with (go_at_call 46; refine hc.mono ?_; rintro e w' ⟨N, rfl, _, _, hb⟩)
    go_ret2
    exact ⟨rfl, hb⟩
  · have e : numberOf s most = (0, false) := by unfold numberOf; rw [hA]
    rw [e]
    obtain ⟨te, pe, hv⟩ := HT.out.2.2
    have hc := Any.strconv_Atoi_range layAtoi s (by omega) hA (.iface te pe) w hv (Or.inr ⟨te, pe, rfl⟩)
    clear hv hA e
    go_enter Tryd.func35, Tryd.ntmps35
    go_wp2_with (go_at_call 46; refine hc.mono ?_; rintro e w' ⟨N, rfl, _, _, hb⟩)
    go_ret2
    exact ⟨rfl, hb⟩
/-- The shelf's numbers turned to this program's. -/
def rhoFF : Go.Shelf.Ren := ⟨fun n => if n = 229 then 32 else n, fun n => if n = 0 then 0 else if n = 3 then 3 else if n = 4 then 4 else if n = 9 then 9 else if n = 21 then 21 else if n = 31 then 35 else if n = 40 then 56 else if n = 152 then 64 else if n = 154 then 66 else n, fun n => n⟩
set_option maxRecDepth 100000 in
theorem layFF : Go.Proofs.Lays.n229 Tryd.prog rhoFF where
  mixed := by kernel_rfl
  f229 := by kernel_rfl
  t0 := by kernel_rfl
  a0 := fun _ => by kernel_rfl
  z0 := fun _ => by kernel_rfl
  v0 := fun _ => by kernel_rfl
  t3 := by kernel_rfl
  a3 := fun _ => by kernel_rfl
  z3 := fun _ => by kernel_rfl
  v3 := fun _ => by kernel_rfl
  t4 := by kernel_rfl
  a4 := fun _ => by kernel_rfl
  z4 := fun _ => by kernel_rfl
  v4 := fun _ => by kernel_rfl
  t9 := by kernel_rfl
  a9 := fun _ => by kernel_rfl
  z9 := fun _ => by kernel_rfl
  v9 := fun _ => by kernel_rfl
  t21 := by kernel_rfl
  a21 := fun _ => by kernel_rfl
  z21 := fun _ => by kernel_rfl
  v21 := fun _ => by kernel_rfl
  t31 := by kernel_rfl
  a31 := fun _ => by kernel_rfl
  z31 := fun _ => by kernel_rfl
  v31 := fun _ => by kernel_rfl
  t40 := by kernel_rfl
  a40 := fun _ => by kernel_rfl
  z40 := fun _ => by kernel_rfl
  v40 := fun _ => by kernel_rfl
  t152 := by kernel_rfl
  a152 := fun _ => by kernel_rfl
  z152 := fun _ => by kernel_rfl
  v152 := fun _ => by kernel_rfl
  t154 := by kernel_rfl
  a154 := fun _ => by kernel_rfl
  z154 := fun _ => by kernel_rfl
  v154 := fun _ => by kernel_rfl
theorem infoSpan : (Tryd.prog.info? (rhoFF.t 154)).map (fun i => (i.zero, i.size, i.bytes)) = some (some (.agg #[.int .i64 0, .int .i64 0]), 2, 16) := by kernel_rfl
theorem infoStr : (Tryd.prog.info? (rhoFF.t 9)).map (fun i => (i.zero, i.size, i.bytes)) = some (some (.string ⟨#[]⟩), 1, 16) := by kernel_rfl
theorem extract_size_le (s : ByteArray) (a b : Nat) : (s.extract a b).size ≤ s.size := by
  rw [ByteArray.size_extract]
  omega
theorem fields_size (p : Nat → Bool) (s : ByteArray) : ∀ x ∈ Lib.goFieldsP p s, x.size ≤ s.size := by
  intro x hx
  unfold Lib.goFieldsP at hx
  obtain ⟨y, _, rfl⟩ := List.mem_map.1 hx
  exact extract_size_le _ _ _
theorem spans_length (p : Nat → Bool) (s : ByteArray) : ∀ (f pos : Nat) (st : Option Nat) (acc : List (Nat × Nat)), (Lib.spansFromP p s f pos st acc).1.length ≤ acc.length + f
  | 0, _, _, acc => Nat.le_refl _
  | f + 1, pos, st, acc => by
    unfold Lib.spansFromP
    split
    · split <;> cases st
      · exact Nat.le_trans (spans_length p s f _ _ _) (by omega)
      · exact Nat.le_trans (spans_length p s f _ _ _) (by simp; omega)
      · exact Nat.le_trans (spans_length p s f _ _ _) (by omega)
      · exact Nat.le_trans (spans_length p s f _ _ _) (by omega)
    · exact Nat.le_add_right _ _
theorem fields_length (p : Nat → Bool) (s : ByteArray) : (Lib.goFieldsP p s).length ≤ s.size + 1 := by
  unfold Lib.goFieldsP Lib.spansOfP
  rw [List.length_map]
  have h := spans_length p s s.size 0 none []
  generalize Lib.spansFromP p s s.size 0 none [] = x at h
  obtain ⟨acc, st⟩ := x
  cases st with
  | none => show acc.length ≤ _; simp at h; omega
  | some a => show (acc ++ [(a, s.size)]).length ≤ _; simp at h ⊢; omega
/-- What impl.numbers answers behind some words. -/
def numsFrom (most : Int) : List ByteArray → List Int → List Int × Bool
  | [], acc => (acc, true)
  | x :: l, acc => if (numberOf x most).2 = true then numsFrom most l (acc ++ [(numberOf x most).1]) else ([], false)
theorem empty_R (w : World) (o : Obj) (e : Nat) : Kd.R (Kd.int .i64) e ((w.alloc o).alloc (.cells #[] e)) w.heap.size (fun _ => True) (.slice (some ⟨w.heap.size + 1, 0, none⟩) 0 0) [] := by
  refine Kd.R_of_own (enc := Value.int .i64) ⟨by simp [encs], .inr ⟨w.heap.size + 1, 0, #[], rfl, by omega, ?_, by simp, by unfold maxLen; omega, rfl, rfl⟩⟩ (fun _ _ => trivial)
  have h := blk_new (w.alloc o) (.cells #[] e)
  simpa using h
def asciiB (s : ByteArray) : Bool := s.data.toList.all fun b => decide (b.toNat < 128)
theorem ascii_of {s : ByteArray} (h : asciiB s = true) : ascii s := fun b hb => of_decide_eq_true (List.all_eq_true.1 h b hb)
def impl_numbers.f (a0 a1 : ByteArray) (a2 : Int) : Option (List Int × Bool) :=
  if a0.size ≤ 1048576 ∧ a1.size ≤ 1048576 ∧ asciiB a1 = true then some (numsFrom a2 (Lib.goFieldsP (hasRune a1) a0) []) else none
set_option maxHeartbeats 8000000 in
set_option maxRecDepth 100000 in
theorem numbers_calls (a0 a1 : ByteArray) (a2 : Int) (h0 : a0.size ≤ 1048576) (h1 : a1.size ≤ 1048576) (h2 : asciiB a1 = true) (r1 : List Int) (r2 : Bool) (w : World) (h : numsFrom a2 (Lib.goFieldsP (hasRune a1) a0) [] = (r1, r2)) (htab : Tab w) :
    Calls Tryd.prog 19 #[.string a0, .string a1, .int .i64 a2] w fun e w' => ∃ v0_ : Value, e = .returned (.tuple #[v0_, .bool r2]) ∧ Kd.R (Kd.int .i64) 3 w' w.heap.size (fun _ => True) v0_ r1 ∧ Below w.heap.size w w' := by
  have HT := Aside0.mk htab
  have hfs := fields_size (hasRune a1) a0
  have hfl := fields_length (hasRune a1) a0
  have hff : ∀ (W : World) (g : Nat), W.cell? ⟨g, 0, none⟩ = some (Value.string a1) → Calls Tryd.prog 32 #[.string a0, .func (.func 33) #[] #[.pointer (some ⟨g, 0, none⟩)]] W fun e w' => ∃ A, e = .returned (.slice (some ⟨A, 0, none⟩) (Lib.goFieldsP (hasRune a1) a0).length (Lib.goFieldsP (hasRune a1) a0).length) ∧ W.heap.size ≤ A ∧
      w'.ownsRow W.heap.size 9 1 (.slice (some ⟨A, 0, none⟩) (Lib.goFieldsP (hasRune a1) a0).length (Lib.goFieldsP (hasRune a1) a0).length) (Lib.goFieldsP (hasRune a1) a0).length ((Lib.goFieldsP (hasRune a1) a0).map Value.string) ∧ Below W.heap.size W w' := fun W g hg =>
    Any.strings_FieldsFunc_grows layFF 33 #[.pointer (some ⟨g, 0, none⟩)] e_isSign (hasRune a1) a0 W (by omega) (isSign_grows a1 (ascii_of h2) h1 g W hg) infoSpan infoStr
  obtain ⟨ws, hws⟩ : ∃ ws, Lib.goFieldsP (hasRune a1) a0 = ws := ⟨_, rfl⟩
  rw [hws] at hfs hfl h hff
  have HF := Aside0.mk hfs
  have HH := Aside0.mk h
  have HFF := Aside0.mk hff
  clear hfs h hff hws htab
  go_enter Tryd.func19, Tryd.ntmps19
  go_wp2_with (go_at_call 32; go_loud (generalize hW : (w.alloc _).alloc _ = W; have hWb : Below w.heap.size w W := (by rw [← hW]; exact below_alloc (below_alloc (Below.refl _ w) _) _); have hWc : W.cell? ⟨w.heap.size, 0, none⟩ = some (Value.string a1) := (by rw [← hW]; simp); have hWo : Kd.R (Kd.int .i64) 3 W w.heap.size (fun _ => True) (.slice (some ⟨w.heap.size + 1, 0, none⟩) 0 0) [] := (by rw [← hW]; exact empty_R w _ 3); refine (HFF.out W w.heap.size hWc).mono ?_; rintro e w1 ⟨A, rfl, _, hown, hb⟩; have HB := Aside0.mk (below_step hWb hb); have HE := Aside0.mk (Kd.R_below hWo hb); have HO := Aside0.mk (Kd.R_lower (Kd.R_of_own (enc := Value.string) (h1 := fun _ => rfl) (ok := fun _ => True) (xs := ws) (e := 9) hown (fun _ _ => trivial)) (below_size hWb)); clear hown hb hWb hWc hWo hW))
  go_loopg [8, 18] ws.length (fun kq v8 v18 w' => ∃ (acc : List Int) (i : Nat), v18 = .int .i64 i ∧ i + kq = ws.length ∧ acc.length ≤ i ∧ Aside0 (numsFrom a2 (ws.drop i) acc = (r1, r2)) ∧ Aside0 (Kd.R (Kd.int .i64) 3 w' w.heap.size (fun _ => True) v8 acc) ∧ Aside0 (Kd.R Kd.string 9 w' w.heap.size (fun _ => True) (.slice (some ⟨A, 0, none⟩) ws.length ws.length) ws) ∧ Aside0 (Below w.heap.size w w'))
  case atStart => exact ⟨[], 0, rfl, by omega, Nat.le_refl _, HH, HE, HO, HB⟩
  case round =>
    obtain ⟨acc, i, rfl, hik, hal, HX, HO_8, HO_16, HB_⟩ := hrel
    clear HB HO HE
    by_cases hlt : i < ws.length
    · have c6b0 : decide ((i : Int) < (ws.length : Int)) = true := decide_eq_true (by omega)
      obtain ⟨x, hx⟩ : ∃ x, ws[i]? = some x := ⟨_, List.getElem?_eq_getElem hlt⟩
      have hxs := HF.out x (List.mem_of_getElem? hx)
      have hdr : ws.drop i = x :: ws.drop (i + 1) := by
        rw [List.drop_eq_getElem_cons hlt]
        obtain ⟨h_, e_⟩ := List.getElem?_eq_some_iff.1 hx
        rw [e_]
      have HN := HX.out
      rw [hdr, numsFrom] at HN
      have hnum := fun W hT => number_calls x (by omega) a2 W hT
      obtain ⟨nv, hnv⟩ : ∃ nv, (numberOf x a2).1 = nv := ⟨_, rfl⟩
      obtain ⟨p125, q125⟩ : (0 : Int) ≤ (i : Int) ∧ (i : Int) < (ws.length : Int) := ⟨by omega, by omega⟩
      obtain ⟨ad, e125, hx125⟩ := Kd.at_string (Kd.R_reads' HO_16.out).2.2 (i : Int) p125 q125
      cases e125
      have hrd : rdOf ByteArray.empty ws (i : Int) = x := by
        simp only [rdOf, List.getD_eq_getElem?_getD, Int.toNat_natCast, hx]
        rfl
      rw [hrd, Int.toNat_natCast, add_plain] at hx125
      rw [hnv] at HN hnum
      clear hdr HX hrd hxs hx
      replace p125 := eq_true p125
      replace q125 := eq_true q125
      cases hok : (numberOf x a2).2 with
      | true =>
        rw [hok, if_pos rfl] at HN
        rw [hok] at hnum
        have HX := Aside0.mk HN
        have HNM := Aside0.mk hnum
        clear HN hnum hok hnv
        go_wp2_with (first
          | (go_at_call 35; refine (HNM.out _ (Tab.below HT.out HB_.out)).mono ?_; rintro e w2 ⟨rfl, hb⟩; have n0_ := Aside0.mk (Kd.R_below HO_8.out hb); have n1_ := Aside0.mk (Kd.R_below HO_16.out hb); have n2_ := Aside0.mk (below_step HB_.out hb); clear HO_8 HO_16 HB_; have HO_8 := n0_; have HO_16 := n1_; have HB_ := n2_; clear n0_ n1_ n2_ hb)
          | ((with_reducible refine gate_builtin (b := .append) (xs := #[.tmp 30, .tmp 32]) rfl ?_); at_builtin; refine Kd.R_append (Kd.int .i64) (w0 := w) w.heap.size rfl (.tmp 30) (.tmp 32) 22 3 (.int .i64 0) 8 rfl Tryd.underlying22 info3 rfl (by decide) (by omega) u8 acc nv [.int .i64 nv] (fun _ => True) (fun _ => False) rfl rfl ?aP (fun _ hk => hk.elim) ?aF ?aO ?aB ?aS ?aL ?_; (case aP => exact rfl); (case aB => exact (by repeat (first | (with_reducible first | exact HB_.out | apply below_alloc | apply pw_below_drewN | apply below_drew1) | exact HB_.out))); (case aF => exact (fun _ _ => trivial)); (case aO => exact (by (with_reducible repeat (first | apply Kd.R_alloc | apply Kd.R_drewN | apply Kd.R_drew)); exact HO_8.out)); (case aS => exact (below_size (by repeat (first | (with_reducible first | exact HB_.out | apply below_alloc | apply pw_below_drewN | apply below_drew1) | exact HB_.out)))); (case aL => omega); intro v128 w11 ho hb hg hat; have n0_ := Aside0.mk (Kd.R_over' (by (with_reducible repeat (first | apply Kd.R_alloc | apply Kd.R_drewN | apply Kd.R_drew)); exact HO_16.out) (Kd.R_typed (by (with_reducible repeat (first | apply Kd.R_alloc | apply Kd.R_drewN | apply Kd.R_drew)); exact HO_8.out)) (by decide) hg); have n1_ := Aside0.mk (hb); have n2_ := Aside0.mk (ho); clear HO_16; clear HB_; clear HO_8; have HO_16 := n0_; have HB_ := n1_; have HO_8 := n2_; clear n0_ n1_ n2_; clear ho hb hg hat))
        obtain ⟨k1, rfl⟩ : ∃ k1, gk = k1 + 1 := ⟨gk - 1, by omega⟩
        go_roundg k1
        case measure => omega
        case rel => exact ⟨acc ++ [nv], i + 1, by go_num, by omega, by rw [List.length_append]; simp; omega, HX, HO_8, HO_16, HB_⟩
      | false =>
        rw [hok, if_neg (by decide)] at HN
        rw [hok] at hnum
        have HNM := Aside0.mk hnum
        obtain ⟨rfl, rfl⟩ := Prod.mk.inj HN
        clear HN hnum hok hnv
        go_wp2_with (first
          | (go_at_call 35; refine (HNM.out _ (Tab.below HT.out HB_.out)).mono ?_; rintro e w2 ⟨rfl, hb⟩; have n2_ := Aside0.mk (below_step HB_.out hb); clear HO_8 HO_16 HB_; have HB_ := n2_; clear n2_ hb))
        go_ret2
        exact ⟨_, rfl, Kd.R_nil _ _ _ _ _, HB_.out⟩
    · have c6b0 : decide ((i : Int) < (ws.length : Int)) = false := decide_eq_false (by omega)
      have HN := HX.out
      rw [List.drop_of_length_le (by omega), numsFrom] at HN
      obtain ⟨rfl, rfl⟩ := Prod.mk.inj HN
      clear HN HX
      go_wp2
      go_ret2
      exact ⟨_, rfl, HO_8.out, HB_.out⟩
theorem impl_numbers.calls (a0 : ByteArray) (a1 : ByteArray) (a2 : Int) (r1 : List Int) (r2 : Bool) (w : World) (h : impl_numbers.f a0 a1 a2 = some (r1, r2)) (htab : Tab w := by first | exact Tab.below (Aside0.out (by assumption)) (by repeat (first | (with_reducible first | exact (Aside0.out (by assumption)) | apply below_alloc | apply pw_below_drewN | apply below_drew1 | refine below_set ?_ (Aside0.out (by assumption))) | exact (Aside0.out (by assumption))))) :
    Calls Tryd.prog 19 #[.string a0, .string a1, .int .i64 a2] w fun e w' => ∃ v0_ : Value, e = .returned (.tuple #[v0_, .bool r2]) ∧ Kd.R (Kd.int .i64) 3 w' w.heap.size (fun _ => True) v0_ r1 ∧ Below w.heap.size w w' := by
  unfold impl_numbers.f at h
  by_cases hc : a0.size ≤ 1048576 ∧ a1.size ≤ 1048576 ∧ asciiB a1 = true
  · rw [if_pos hc] at h
    exact numbers_calls a0 a1 a2 hc.1 hc.2.1 hc.2.2 r1 r2 w (Option.some.inj h) htab
  · rw [if_neg hc] at h
    cases h

end Go.Proofs.YtadkmhlohgeihaaDoor.K
