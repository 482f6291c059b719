/- Walks: the reference's inside and put; plain law: the same corners. -/
import Derived.Test.YtjiklfffcnfdjaaGreatCuA
import Derived.Test.YtjiklfffcnfdjaaGreatClpD
namespace Go.Proofs.YtjiklfffcnfdjaaGreat
open Go.RowKit
attribute [local go_sem] Instr.index

def insR : Int → List Int → Bool
  | _, [] => true
  | m, s :: l => if s ≠ 0 ∧ m ≠ 0 ∧ s ≠ m then false else insR (if s ≠ 0 then s else m) l
def sgnL (a b c : V3) (p : Sp) : List Int := [signI (edgeS a b p), signI (edgeS b c p), signI (edgeS c a p)]
def insideR (a b c : V3) (p : Sp) : Bool := insR 0 (sgnL a b c p)

set_option maxRecDepth 100000 in
set_option maxHeartbeats 8000000 in
theorem refinside_any (a b c : V3) (p : Sp) (w : World) (va : vOk a = true) (vb : vOk b = true) (vc : vOk c = true) (hp : SpSmall p) :
    Calls Tryz.prog 74 #[vsA a b c, .int .i64 p.x, .int .i64 p.z, .int .i64 p.d] w fun e w' => e = .returned (.bool (insideR a b c p)) ∧ Below w.heap.size w w' := by
  rw [vOk_iff] at va vb vc
  obtain ⟨p1, p2, p3, p4, p5, p6⟩ := hp
  obtain ⟨r, hr⟩ : ∃ r, r = insideR a b c p := ⟨_, rfl⟩
  rw [← hr]
  obtain ⟨L, hL⟩ : ∃ L, L = sgnL a b c p := ⟨_, rfl⟩
  have HR : Hid (insR 0 (L.drop 0) = r) := by show _ = _; rw [hr, hL]; rfl
  have HL3 : L.length = 3 := by rw [hL]; rfl
  have L0 : L[0]? = some (signI ((b.x - a.x) * (p.z - a.z * p.d) - (b.z - a.z) * (p.x - a.x * p.d))) := by rw [hL]; rfl
  have L1 : L[1]? = some (signI ((c.x - b.x) * (p.z - b.z * p.d) - (c.z - b.z) * (p.x - b.x * p.d))) := by rw [hL]; rfl
  have L2 : L[2]? = some (signI ((a.x - c.x) * (p.z - c.z * p.d) - (a.z - c.z) * (p.x - c.x * p.d))) := by rw [hL]; rfl
  have hV := World.alloc_heap_new w (.cells #[.int .i64 a.x, .int .i64 a.y, .int .i64 a.z, .int .i64 b.x, .int .i64 b.y, .int .i64 b.z, .int .i64 c.x, .int .i64 c.y, .int .i64 c.z] 75)
  have hB : Below w.heap.size w (w.alloc (.cells #[.int .i64 a.x, .int .i64 a.y, .int .i64 a.z, .int .i64 b.x, .int .i64 b.y, .int .i64 b.z, .int .i64 c.x, .int .i64 c.y, .int .i64 c.z] 75)) := (Below.refl _ _).alloc (Nat.le_refl _) _
  clear hr hL
  obtain ⟨px, pz, pd⟩ := p
  simp only at p1 p2 p3 p4 p5 p6 L0 L1 L2
  go_enter Tryz.func74, Tryz.ntmps74
  go_wp2_with fail
  generalize w.alloc (.cells #[.int .i64 a.x, .int .i64 a.y, .int .i64 a.z, .int .i64 b.x, .int .i64 b.y, .int .i64 b.z, .int .i64 c.x, .int .i64 c.y, .int .i64 c.z] 75) = W at hV hB ⊢
  obtain ⟨T, hT⟩ : ∃ T, T = w.heap.size := ⟨_, rfl⟩
  rw [← hT] at hV ⊢
  have HT := Lib.hid hT
  clear hT
  go_loopw [9, 10] (fun s9 s10 wr => ∃ (k : Nat) (m : Int), s10 = .int .i64 k ∧ s9 = .int .i64 m ∧ k ≤ 3 ∧ Hid (insR m (L.drop k) = r) ∧ Below W.heap.size W wr) (fun _ s10 _ => 3 - (intOf s10).toNat)
  case atStart => exact ⟨0, 0, rfl, rfl, by omega, HR, Below.refl _ _⟩
  case round =>
    clear HR
    obtain ⟨k, m, rfl, rfl, hk, HK, hb⟩ := hrel
    have hVr := hkeep hb hV
    have hBr := hB.trans (hb.mono hB.size)
    by_cases hk3 : k = 3
    · subst hk3
      have HRt : Hid (r = true) := by
        show _ = _
        rw [← HK.out, List.drop_eq_nil_of_le (by omega)]
        rfl
      clear hVr HK L0 L1 L2
      go_wp2
      go_ret
      exact ⟨ret_bool HRt.out.symm, hBr⟩
    have hkI : (k : Int) < 3 := by omega
    have c0 := hcell (k := 0) (v := .int .i64 a.x) hVr rfl
    have c1 := hcell (k := 1) (v := .int .i64 a.y) hVr rfl
    have c2 := hcell (k := 2) (v := .int .i64 a.z) hVr rfl
    have c3 := hcell (k := 3) (v := .int .i64 b.x) hVr rfl
    have c4 := hcell (k := 4) (v := .int .i64 b.y) hVr rfl
    have c5 := hcell (k := 5) (v := .int .i64 b.z) hVr rfl
    have c6 := hcell (k := 6) (v := .int .i64 c.x) hVr rfl
    have c7 := hcell (k := 7) (v := .int .i64 c.y) hVr rfl
    have c8 := hcell (k := 8) (v := .int .i64 c.z) hVr rfl
    have hC : ∃ (k2 : Nat) (s0 s1 s2 s3 s4 s5 : Int), (k2 : Int) < 3 ∧ ((k : Int) + 1).tmod 3 = (k2 : Int) ∧ wr.cell? ⟨T, k * 3, none⟩ = some (.int .i64 s0) ∧ wr.cell? ⟨T, k * 3 + 1, none⟩ = some (.int .i64 s1) ∧ wr.cell? ⟨T, k * 3 + 2, none⟩ = some (.int .i64 s2) ∧ wr.cell? ⟨T, k2 * 3, none⟩ = some (.int .i64 s3) ∧ wr.cell? ⟨T, k2 * 3 + 1, none⟩ = some (.int .i64 s4) ∧ wr.cell? ⟨T, k2 * 3 + 2, none⟩ = some (.int .i64 s5) ∧ (0 ≤ s0 ∧ s0 ≤ 32) ∧ (0 ≤ s2 ∧ s2 ≤ 32) ∧ (0 ≤ s3 ∧ s3 ≤ 32) ∧ (0 ≤ s5 ∧ s5 ≤ 32) ∧ L[k]? = some (signI ((s3 - s0) * (pz - s2 * pd) - (s5 - s2) * (px - s0 * pd))) := by
      have hk' : k = 0 ∨ k = 1 ∨ k = 2 := by omega
      rcases hk' with rfl | rfl | rfl
      · exact ⟨1, a.x, a.y, a.z, b.x, b.y, b.z, by decide, by decide, c0, c1, c2, c3, c4, c5, by omega, by omega, by omega, by omega, L0⟩
      · exact ⟨2, b.x, b.y, b.z, c.x, c.y, c.z, by decide, by decide, c3, c4, c5, c6, c7, c8, by omega, by omega, by omega, by omega, L1⟩
      · exact ⟨0, c.x, c.y, c.z, a.x, a.y, a.z, by decide, by decide, c6, c7, c8, c0, c1, c2, by omega, by omega, by omega, by omega, L2⟩
    clear c0 c1 c2 c3 c4 c5 c6 c7 c8 hVr L0 L1 L2 va vb vc
    obtain ⟨k2, s0, s1, s2, s3, s4, s5, hk2, hm, d0, d1, d2, d3, d4, d5, b0, b2, b3, b5, hLk⟩ := hC
    have SG := Lib.hid (fun W => sign_any ((s3 - s0) * (pz - s2 * pd) - (s5 - s2) * (px - s0 * pd)) W)
    obtain ⟨sk, hsk⟩ : ∃ sk, sk = signI ((s3 - s0) * (pz - s2 * pd) - (s5 - s2) * (px - s0 * pd)) := ⟨_, rfl⟩
    rw [← hsk] at SG hLk
    have HK2 : Hid ((if sk ≠ 0 ∧ m ≠ 0 ∧ sk ≠ m then false else insR (if sk ≠ 0 then sk else m) (L.drop (k + 1))) = r) := by
      show _ = _
      rw [← HK.out]
      have e : L.drop k = sk :: L.drop (k + 1) := by
        obtain ⟨hlt, he⟩ := List.getElem?_eq_some_iff.1 hLk
        rw [List.drop_eq_getElem_cons hlt, he]
      rw [e]
      rfl
    clear hsk hLk HK
    have n1 := World.new_ne wr _ d0
    have hw1 : IntKind.i64.wrap ((k : Int) + 1) = (k : Int) + 1 := by rw [IntKind.wrap_i64]; omega
    have hk0 : (0 : Int) ≤ (k : Int) := by omega
    have hk1 : (0 : Int) ≤ (k2 : Int) := by omega
    have m1 := mulB (x := s0) (y := pd) (K := 40) (L := 40) (by omega) (by omega)
    have m2 := mulB (x := s2) (y := pd) (K := 40) (L := 40) (by omega) (by omega)
    have m3 := mulB (x := s3 - s0) (y := pz - s2 * pd) (K := 64) (L := 10000) (by omega) (by omega)
    have m4 := mulB (x := s5 - s2) (y := px - s0 * pd) (K := 64) (L := 10000) (by omega) (by omega)
    go_wp2_with fail
    go_region_held3 (fun WW => WW.cell? ⟨T, k * 3, none⟩ = some (.int .i64 s0) ∧ WW.cell? ⟨T, k * 3 + 1, none⟩ = some (.int .i64 s1) ∧ WW.cell? ⟨T, k * 3 + 2, none⟩ = some (.int .i64 s2) ∧ WW.cell? ⟨T, k2 * 3, none⟩ = some (.int .i64 s3) ∧ WW.cell? ⟨T, k2 * 3 + 1, none⟩ = some (.int .i64 s4) ∧ WW.cell? ⟨T, k2 * 3 + 2, none⟩ = some (.int .i64 s5)) (first | go_keep | fail) (fail)
    all_goals
      rename_i hH
      clear hH
      have hb1 := Lib.hid (hb.trans ((((((Below.refl wr.heap.size wr).alloc (Nat.le_refl _) (.cells #[.int .i64 s0, .int .i64 s1, .int .i64 s2] 74)).alloc (by simp) (.cells #[.int .i64 s3, .int .i64 s4, .int .i64 s5] 74))).drew : Below wr.heap.size wr ((wr.alloc (.cells #[.int .i64 s0, .int .i64 s1, .int .i64 s2] 74)).alloc (.cells #[.int .i64 s3, .int .i64 s4, .int .i64 s5] 74)).drew).mono hb.size))
      have hb2 := Lib.hid (hb.trans ((((((Below.refl wr.heap.size wr).alloc (Nat.le_refl _) (.cells #[.int .i64 s3, .int .i64 s4, .int .i64 s5] 74)).alloc (by simp) (.cells #[.int .i64 s0, .int .i64 s1, .int .i64 s2] 74))).drew : Below wr.heap.size wr ((wr.alloc (.cells #[.int .i64 s3, .int .i64 s4, .int .i64 s5] 74)).alloc (.cells #[.int .i64 s0, .int .i64 s1, .int .i64 s2] 74)).drew).mono hb.size))
      clear d0 d1 d2 d3 d4 d5 n1
      go_wp2_with fail
      refine (SG.out _).mono ?_
      rintro e w5 ⟨rfl, rfl⟩
      by_cases q1 : sk = 0
      · subst q1
        have HE : Hid (insR m (L.drop (k + 1)) = r) := by
          have := HK2.out
          rw [if_neg (by simp), if_neg (by simp)] at this
          exact this
        clear m1 m2 m3 m4
        go_wp2
        go_roundw
        case rel => first | exact ⟨k + 1, m, by go_num, rfl, by omega, HE, hb1.out⟩ | exact ⟨k + 1, m, by go_num, rfl, by omega, HE, hb2.out⟩
        case measure => simp [intOf]; omega
      · have q1' : (sk != 0) = true := by simpa using q1
        by_cases q2 : m = 0
        · subst q2
          have HE : Hid (insR sk (L.drop (k + 1)) = r) := by
            have := HK2.out
            rw [if_neg (by simp), if_pos q1] at this
            exact this
          clear m1 m2 m3 m4
          go_wp2
          go_roundw
          case rel => first | exact ⟨k + 1, sk, by go_num, rfl, by omega, HE, hb1.out⟩ | exact ⟨k + 1, sk, by go_num, rfl, by omega, HE, hb2.out⟩
          case measure => simp [intOf]; omega
        · have q2' : (m != 0) = true := by simpa using q2
          by_cases q3 : sk = m
          · subst q3
            have HE : Hid (insR sk (L.drop (k + 1)) = r) := by
              have := HK2.out
              rw [if_neg (by simp), if_pos q1] at this
              exact this
            clear m1 m2 m3 m4
            go_wp2
            go_roundw
            case rel => first | exact ⟨k + 1, sk, by go_num, rfl, by omega, HE, hb1.out⟩ | exact ⟨k + 1, sk, by go_num, rfl, by omega, HE, hb2.out⟩
            case measure => simp [intOf]; omega
          · have q3' : (sk != m) = true := by simpa using q3
            have HE : Hid (r = false) := by
              have := HK2.out
              rw [if_pos ⟨q1, q2, q3⟩] at this
              exact this.symm
            clear m1 m2 m3 m4
            go_wp2
            go_ret
            first
              | exact ⟨ret_bool HE.out.symm, hB.trans (hb1.out.mono hB.size)⟩
              | exact ⟨ret_bool HE.out.symm, hB.trans (hb2.out.mono hB.size)⟩
end Go.Proofs.YtjiklfffcnfdjaaGreat

namespace Go.Proofs.YtjiklfffcnfdjaaGreat
open Go.RowKit

/-- One corner comes behind another one. -/
def gtR (y c : Cr) : Bool := decide (0 < y.x * c.d - c.x * y.d) || (decide (y.x * c.d - c.x * y.d = 0) && decide (0 < y.z * c.d - c.z * y.d))
def putF (c : Cr) : Bool → List Cr → List Cr
  | d, [] => if d then [] else [c]
  | d, y :: l => if y = c then y :: putF c true l else if !d && gtR y c then c :: y :: putF c true l else y :: putF c d l
def putL (l : List Cr) (c : Cr) : List Cr := putF c false l
theorem putF_len (c : Cr) : ∀ (l : List Cr) (d : Bool), (putF c d l).length ≤ l.length + 1
  | [], d => by cases d <;> simp [putF]
  | y :: l, d => by
    have h1 := putF_len c l true
    have h2 := putF_len c l d
    have h3 : (putF c true l).length ≤ l.length := putF_true c l
    unfold putF
    split
    · simp; omega
    · split
      · simp; omega
      · simp; omega
where
  putF_true (c : Cr) : ∀ (l : List Cr), (putF c true l).length ≤ l.length
    | [] => by simp [putF]
    | y :: l => by
      have := putF_true c l
      unfold putF
      split
      · simp; omega
      · simp; omega

set_option maxRecDepth 100000 in
set_option maxHeartbeats 16000000 in
theorem put_any (ad : Option Addr) (n cp : Nat) (l : List Cr) (c : Cr) (w : World) (hs : SlR crC 4 w ad n cp l) (hl : ∀ y ∈ l, CrSmall y) (hc : CrSmall c) (hn : n ≤ 1000) :
    Calls Tryz.prog 75 #[.slice ad n cp, crA c] w fun e w' => ∃ v, e = .returned v ∧ OwnR crC 4 105 w.heap.size w' v (putL l c).length (putL l c) ∧ Below w.heap.size w w' := by
  have Hl := Lib.hid hs.len
  have hle := hs.le
  have hmax := hs.max
  have Hs0 := hs.alloc (.cells #[.int .i64 c.x, .int .i64 c.z, .int .i64 c.y, .int .i64 c.d] 105)
  have hX := World.alloc_heap_new w (.cells #[.int .i64 c.x, .int .i64 c.z, .int .i64 c.y, .int .i64 c.d] 105)
  have hB : Below w.heap.size w (w.alloc (.cells #[.int .i64 c.x, .int .i64 c.z, .int .i64 c.y, .int .i64 c.d] 105)) := (Below.refl _ _).alloc (Nat.le_refl _) _
  obtain ⟨res, hres⟩ : ∃ res, res = putL l c := ⟨_, rfl⟩
  have HR : Hid ([] ++ putF c false (l.drop 0) = res) := by show _ = _; rw [hres]; rfl
  rw [← hres]
  have HS := Lib.hid hl
  obtain ⟨g1, g2, g3, g4, g5, g6⟩ := hc
  clear hs hl hres
  obtain ⟨cx, cz, cy, cd⟩ := c
  simp only at g1 g2 g3 g4 g5 g6 hX hB Hs0
  go_enter Tryz.func75, Tryz.ntmps75
  go_wp2_with fail
  generalize w.alloc (.cells #[.int .i64 cx, .int .i64 cz, .int .i64 cy, .int .i64 cd] 105) = W at hX hB Hs0 ⊢
  obtain ⟨T, hT⟩ : ∃ T, T = w.heap.size := ⟨_, rfl⟩
  rw [← hT] at hX ⊢
  have HT := Lib.hid hT
  have Hs := Lib.hid Hs0
  clear hT Hs0
  go_loopw [5, 6, 7] (fun s5 s6 s7 wr => ∃ (k : Nat) (d : Bool) (out : List Cr), s7 = .int .i64 k ∧ s6 = .bool d ∧ k ≤ n ∧ OwnR crC 4 105 W.heap.size wr s5 out.length out ∧ out.length ≤ 2 * k ∧ Hid (out ++ putF ⟨cx, cz, cy, cd⟩ d (l.drop k) = res) ∧ Below W.heap.size W wr) (fun _ _ s7 _ => n - (intOf s7).toNat)
  case atStart => exact ⟨0, false, [], rfl, rfl, Nat.zero_le _, OwnR.nil _ _ _ _ _, by simp, HR, Below.refl _ _⟩
  case round =>
    clear HR
    obtain ⟨k, d, out, rfl, rfl, hk, hown, hol, HK, hb⟩ := hrel
    have hXr := hkeep hb hX
    have x0 := hcell (k := 0) (v := .int .i64 cx) hXr rfl
    have x1 := hcell (k := 1) (v := .int .i64 cz) hXr rfl
    have x2 := hcell (k := 2) (v := .int .i64 cy) hXr rfl
    have x3 := hcell (k := 3) (v := .int .i64 cd) hXr rfl
    by_cases hlt : k < n
    · have hltI : (k : Int) < (n : Int) := by omega
      obtain ⟨y, hy⟩ : ∃ y, l[k]? = some y := ⟨_, List.getElem?_eq_getElem (by rw [Hl.out]; exact hlt)⟩
      obtain ⟨bk, off, rfl, hbl, hcc⟩ := (Hs.out.below hb (Nat.le_refl _)).at0 (by omega)
      have q0 : wr.cell? ⟨bk, off + k * 4, none⟩ = some (.int .i64 y.x) := hcc k y hy 0 _ rfl
      have q1 : wr.cell? ⟨bk, off + k * 4 + 1, none⟩ = some (.int .i64 y.z) := hcc k y hy 1 _ rfl
      have q2 : wr.cell? ⟨bk, off + k * 4 + 2, none⟩ = some (.int .i64 y.y) := hcc k y hy 2 _ rfl
      have q3 : wr.cell? ⟨bk, off + k * 4 + 3, none⟩ = some (.int .i64 y.d) := hcc k y hy 3 _ rfl
      obtain ⟨j1, j2, j3, j4, j5, j6⟩ := HS.out y (List.mem_of_getElem? hy)
      have hdr : l.drop k = y :: l.drop (k + 1) := by
        obtain ⟨hlt', he⟩ := List.getElem?_eq_some_iff.1 hy
        rw [List.drop_eq_getElem_cons hlt', he]
      have HK2 : Hid (out ++ (if y = ⟨cx, cz, cy, cd⟩ then y :: putF ⟨cx, cz, cy, cd⟩ true (l.drop (k + 1)) else if !d && gtR y ⟨cx, cz, cy, cd⟩ then ⟨cx, cz, cy, cd⟩ :: y :: putF ⟨cx, cz, cy, cd⟩ true (l.drop (k + 1)) else y :: putF ⟨cx, cz, cy, cd⟩ d (l.drop (k + 1))) = res) := by
        show _ = _
        rw [← HK.out, hdr]
        rfl
      have HG : Hid (gtR y ⟨cx, cz, cy, cd⟩ = (decide (0 < y.x * cd - cx * y.d) || (decide (y.x * cd - cx * y.d = 0) && decide (0 < y.z * cd - cz * y.d)))) := rfl
      have m1 := mulB (x := y.x) (y := cd) (K := 12000000) (L := 70000) (by omega) (by omega)
      have m2 := mulB (x := cx) (y := y.d) (K := 12000000) (L := 70000) (by omega) (by omega)
      have m3 := mulB (x := y.z) (y := cd) (K := 12000000) (L := 70000) (by omega) (by omega)
      have m4 := mulB (x := cz) (y := y.d) (K := 12000000) (L := 70000) (by omega) (by omega)
      have Hy := Lib.hid hy
      clear hcc hy hdr HK j1 j2 j3 j4 j5 j6
      obtain ⟨yx, yz, yy, yd⟩ := y
      simp only at q0 q1 q2 q3 m1 m2 m3 m4 HG
      have HO := Lib.hid hown
      clear hown
      go_upto_region 6 with fail
      go_cut [21] from 16 to 20 (fun s21 wx => s21 = .bool (decide ((⟨yx, yz, yy, yd⟩ : Cr) = ⟨cx, cz, cy, cd⟩)) ∧ Below wr.heap.size wr wx)
      case first =>
        clear HO HK2 HG m1 m2 m3 m4 hb hXr Hy
        have fin : ∀ (b : Bool), decide ((⟨yx, yz, yy, yd⟩ : Cr) = ⟨cx, cz, cy, cd⟩) = b → Value.bool b = Value.bool (decide ((⟨yx, yz, yy, yd⟩ : Cr) = ⟨cx, cz, cy, cd⟩)) := fun b h => by rw [h]
        rcases first_diff ⟨yx, yz, yy, yd⟩ ⟨cx, cz, cy, cd⟩ with h | h | ⟨h0, h⟩ | ⟨h0, h1, h⟩ | ⟨h0, h1, h2, h⟩
        · obtain ⟨rfl, rfl, rfl, rfl⟩ := (by simpa using h : yx = cx ∧ yz = cz ∧ yy = cy ∧ yd = cd)
          have Fin := Lib.hid (fin true (by simp))
          clear fin h
          go_wp2_with fail
          go_region
          all_goals
            go_wp2
            go_meet
            exact ⟨Fin.out, below_drew' (Below.refl _ _)⟩
        · have Fin := Lib.hid (fin false (by simp; intro e; exact absurd e h))
          clear fin
          go_wp2_with fail
          go_region
          all_goals
            go_wp2
            go_meet
            exact ⟨Fin.out, below_drew' (Below.refl _ _)⟩
        · simp only at h0
          subst h0
          have Fin := Lib.hid (fin false (by simp; intro e; exact absurd e h))
          clear fin
          go_wp2_with fail
          go_region
          all_goals
            go_wp2
            go_meet
            exact ⟨Fin.out, below_drew' (Below.refl _ _)⟩
        · simp only at h0 h1
          subst h0 h1
          have Fin := Lib.hid (fin false (by simp; intro e; exact absurd e h))
          clear fin
          go_wp2_with fail
          go_region
          all_goals
            go_wp2
            go_meet
            exact ⟨Fin.out, below_drew' (Below.refl _ _)⟩
        · simp only at h0 h1 h2
          subst h0 h1 h2
          have Fin := Lib.hid (fin false (by simp; intro e; exact absurd e h))
          clear fin
          go_wp2_with fail
          go_region
          all_goals
            go_wp2
            go_meet
            exact ⟨Fin.out, below_drew' (Below.refl _ _)⟩
      case rest =>
      obtain ⟨rfl, hbw⟩ := hcut
      have hb2 := hb.trans (hbw.mono hb.size)
      have hO := HO.out.below hbw (Nat.le_refl _)
      have q0 := hbc hbw q0
      have q1 := hbc hbw q1
      have q2 := hbc hbw q2
      have q3 := hbc hbw q3
      have x0 := hbc hbw x0
      have x1 := hbc hbw x1
      have x2 := hbc hbw x2
      have x3 := hbc hbw x3
      clear hb hXr HO hbw
      obtain ⟨W0, rfl⟩ : ∃ W : World, W = wc := ⟨_, rfl⟩
      by_cases hE : (⟨yx, yz, yy, yd⟩ : Cr) = ⟨cx, cz, cy, cd⟩
      · have hd : decide ((⟨yx, yz, yy, yd⟩ : Cr) = ⟨cx, cz, cy, cd⟩) = true := decide_eq_true hE
        rw [hd]
        have HE : Hid ((out) ++ [⟨yx, yz, yy, yd⟩] ++ putF ⟨cx, cz, cy, cd⟩ true (l.drop (k + 1)) = res) := by
          show _ = _
          rw [← HK2.out, if_pos hE]
          simp
        clear hd hE
        go_upto_region 8 with fail
        go_cut [8] from 22 to 38 (fun s wx => s = .int .i64 (yx * cd - cx * yd) ∧ Below W0.heap.size W0 wx)
        case first =>
          clear HK2 HG hO hb2
          go_wp2_with fail
          go_region
          all_goals
            go_wp2
            go_meet
            exact ⟨rfl, below_drew' (Below.refl _ _)⟩
        case rest =>
        obtain ⟨rfl, hbw⟩ := hcut
        have hb8 := hb2.trans (hbw.mono hb2.size)
        have hO8 := hO.below hbw (Nat.le_refl _)
        have q0 := hbc hbw q0
        have q1 := hbc hbw q1
        have q2 := hbc hbw q2
        have q3 := hbc hbw q3
        have x0 := hbc hbw x0
        have x1 := hbc hbw x1
        have x2 := hbc hbw x2
        have x3 := hbc hbw x3
        clear hbw hO hb2
        obtain ⟨W8, rfl⟩ : ∃ W : World, W = wc := ⟨_, rfl⟩
        go_upto_region 9 with fail
        go_cut [9] from 39 to 55 (fun s wx => s = .int .i64 (yz * cd - cz * yd) ∧ Below W8.heap.size W8 wx)
        case first =>
          clear HK2 HG hO8 hb8
          go_wp2_with fail
          go_region
          all_goals
            go_wp2
            go_meet
            exact ⟨rfl, below_drew' (Below.refl _ _)⟩
        case rest =>
        obtain ⟨rfl, hbw⟩ := hcut
        have hb9 := hb8.trans (hbw.mono hb8.size)
        have hO9 := hO8.below hbw (Nat.le_refl _)
        have q0 := hbc hbw q0
        have q1 := hbc hbw q1
        have q2 := hbc hbw q2
        have q3 := hbc hbw q3
        have x0 := hbc hbw x0
        have x1 := hbc hbw x1
        have x2 := hbc hbw x2
        have x3 := hbc hbw x3
        clear hbw hO8 hb8
        obtain ⟨W9, rfl⟩ : ∃ W : World, W = wc := ⟨_, rfl⟩
        clear HK2 HG m1 m2 m3 m4
        have hsz := hb9.size
        go_wp2_with (at_builtin; refine wpList_appR (f := crC) (sz := 4) (e := 105) (B := W.heap.size) (n := (out).length) (xs := out) _ crC_len crC_one rfl _ _ 99 rfl (.agg #[.int .i64 0, .int .i64 0, .int .i64 0, .int .i64 0]) 32 Tryz.underlying99 info_corner rfl (by decide) ⟨yx, yz, yy, yd⟩ 105 hO9 rfl rfl (by omega) (by omega) (by omega) ?_; intro v' w' hown' happ)
        have hne := hO9.le
        have hbE := hb9.trans (happ.below (B := W.heap.size) hb9.size (fun j hj => hne j hj))
        clear happ hO9 hb9 q0 q1 q2 q3 x0 x1 x2 x3
        go_wp2
        go_roundw
        case rel => exact ⟨k + 1, true, (out) ++ [⟨yx, yz, yy, yd⟩], by go_num, rfl, by omega, own_len hown', by simp; omega, HE, hbE⟩
        case measure => simp [intOf]; omega
      · have hd : decide ((⟨yx, yz, yy, yd⟩ : Cr) = ⟨cx, cz, cy, cd⟩) = false := decide_eq_false hE
        rw [hd]
        rw [if_neg hE] at HK2
        clear hd hE
        go_upto_region 8 with fail
        go_cut [8] from 22 to 38 (fun s wx => s = .int .i64 (yx * cd - cx * yd) ∧ Below W0.heap.size W0 wx)
        case first =>
          clear HK2 HG hO hb2
          go_wp2_with fail
          go_region
          all_goals
            go_wp2
            go_meet
            exact ⟨rfl, below_drew' (Below.refl _ _)⟩
        case rest =>
        obtain ⟨rfl, hbw⟩ := hcut
        have hb8 := hb2.trans (hbw.mono hb2.size)
        have hO8 := hO.below hbw (Nat.le_refl _)
        have q0 := hbc hbw q0
        have q1 := hbc hbw q1
        have q2 := hbc hbw q2
        have q3 := hbc hbw q3
        have x0 := hbc hbw x0
        have x1 := hbc hbw x1
        have x2 := hbc hbw x2
        have x3 := hbc hbw x3
        clear hbw hO hb2
        obtain ⟨W8, rfl⟩ : ∃ W : World, W = wc := ⟨_, rfl⟩
        go_upto_region 9 with fail
        go_cut [9] from 39 to 55 (fun s wx => s = .int .i64 (yz * cd - cz * yd) ∧ Below W8.heap.size W8 wx)
        case first =>
          clear HK2 HG hO8 hb8
          go_wp2_with fail
          go_region
          all_goals
            go_wp2
            go_meet
            exact ⟨rfl, below_drew' (Below.refl _ _)⟩
        case rest =>
        obtain ⟨rfl, hbw⟩ := hcut
        have hb9 := hb8.trans (hbw.mono hb8.size)
        have hO9 := hO8.below hbw (Nat.le_refl _)
        have q0 := hbc hbw q0
        have q1 := hbc hbw q1
        have q2 := hbc hbw q2
        have q3 := hbc hbw q3
        have x0 := hbc hbw x0
        have x1 := hbc hbw x1
        have x2 := hbc hbw x2
        have x3 := hbc hbw x3
        clear hbw hO8 hb8
        obtain ⟨W9, rfl⟩ : ∃ W : World, W = wc := ⟨_, rfl⟩
        clear m1 m2 m3 m4
        cases d with
        | true =>
          have HE : Hid ((out) ++ [⟨yx, yz, yy, yd⟩] ++ putF ⟨cx, cz, cy, cd⟩ true (l.drop (k + 1)) = res) := by
            show _ = _
            rw [← HK2.out, if_neg (by simp)]
            simp
          clear HK2 HG
          have hsz := hb9.size
          go_wp2_with (at_builtin; refine wpList_appR (f := crC) (sz := 4) (e := 105) (B := W.heap.size) (n := (out).length) (xs := out) _ crC_len crC_one rfl _ _ 99 rfl (.agg #[.int .i64 0, .int .i64 0, .int .i64 0, .int .i64 0]) 32 Tryz.underlying99 info_corner rfl (by decide) ⟨yx, yz, yy, yd⟩ 105 hO9 rfl rfl (by omega) (by omega) (by omega) ?_; intro v' w' hown' happ)
          have hne := hO9.le
          have hbE := hb9.trans (happ.below (B := W.heap.size) hb9.size (fun j hj => hne j hj))
          clear happ hO9 hb9 q0 q1 q2 q3 x0 x1 x2 x3
          go_wp2
          go_roundw
          case rel => exact ⟨k + 1, true, (out) ++ [⟨yx, yz, yy, yd⟩], by go_num, rfl, by omega, own_len hown', by simp; omega, HE, hbE⟩
          case measure => simp [intOf]; omega
        | false =>
          by_cases t1 : 0 < yx * cd - cx * yd
          · have hg : gtR ⟨yx, yz, yy, yd⟩ ⟨cx, cz, cy, cd⟩ = true := by rw [HG.out]; rw [decide_eq_true t1]; rfl
            have HE : Hid ((out ++ [⟨cx, cz, cy, cd⟩]) ++ [⟨yx, yz, yy, yd⟩] ++ putF ⟨cx, cz, cy, cd⟩ true (l.drop (k + 1)) = res) := by
              show _ = _
              rw [← HK2.out, if_pos (by simp [hg])]
              simp
            clear HK2 HG hg
            have hsz := hb9.size
            go_upto_region 12 with (at_builtin; refine wpList_appR (f := crC) (sz := 4) (e := 105) (B := W.heap.size) (n := out.length) (xs := out) _ crC_len crC_one rfl _ _ 99 rfl (.agg #[.int .i64 0, .int .i64 0, .int .i64 0, .int .i64 0]) 32 Tryz.underlying99 info_corner rfl (by decide) ⟨cx, cz, cy, cd⟩ 105 hO9 rfl rfl (by omega) (by omega) (by omega) ?_; intro v1 w1 hown1 happ1)
            have hne1 := hO9.le
            have hb1 := hb9.trans (happ1.below (B := W.heap.size) hb9.size (fun j hj => hne1 j hj))
            have hownB := own_len hown1
            obtain ⟨bk3, off3, hbk3, _, hcc3⟩ := (Hs.out.below hb1 (Nat.le_refl _)).at0 (by omega)
            cases hbk3
            have r0 : w1.cell? ⟨bk, off + k * 4, none⟩ = some (.int .i64 yx) := hcc3 k _ Hy.out 0 _ rfl
            have r1 : w1.cell? ⟨bk, off + k * 4 + 1, none⟩ = some (.int .i64 yz) := hcc3 k _ Hy.out 1 _ rfl
            have r2 : w1.cell? ⟨bk, off + k * 4 + 2, none⟩ = some (.int .i64 yy) := hcc3 k _ Hy.out 2 _ rfl
            have r3 : w1.cell? ⟨bk, off + k * 4 + 3, none⟩ = some (.int .i64 yd) := hcc3 k _ Hy.out 3 _ rfl
            have hol2 : (out ++ [(⟨cx, cz, cy, cd⟩ : Cr)]).length ≤ 2 * k + 1 := by simp; omega
            have hsz1 := hb1.size
            clear happ1 hown1 hO9 hb9 hcc3 q0 q1 q2 q3 x0 x1 x2 x3
            go_wp2_with (at_builtin; refine wpList_appR (f := crC) (sz := 4) (e := 105) (B := W.heap.size) (n := (out ++ [(⟨cx, cz, cy, cd⟩ : Cr)]).length) (xs := (out ++ [(⟨cx, cz, cy, cd⟩ : Cr)])) _ crC_len crC_one rfl _ _ 99 rfl (.agg #[.int .i64 0, .int .i64 0, .int .i64 0, .int .i64 0]) 32 Tryz.underlying99 info_corner rfl (by decide) ⟨yx, yz, yy, yd⟩ 105 hownB rfl rfl (by omega) (by omega) (by omega) ?_; intro v' w' hown' happ)
            have hne := hownB.le
            have hbE := hb1.trans (happ.below (B := W.heap.size) hb1.size (fun j hj => hne j hj))
            clear happ hownB hb1 r0 r1 r2 r3
            go_wp2
            go_roundw
            case rel => exact ⟨k + 1, true, (out ++ [⟨cx, cz, cy, cd⟩]) ++ [⟨yx, yz, yy, yd⟩], by go_num, rfl, by omega, own_len hown', by simp; omega, HE, hbE⟩
            case measure => simp [intOf]; omega
          by_cases t2 : yx * cd - cx * yd = 0
          · have t2' : (yx * cd - cx * yd == 0) = true := by simpa using t2
            by_cases t3 : 0 < yz * cd - cz * yd
            · have hg : gtR ⟨yx, yz, yy, yd⟩ ⟨cx, cz, cy, cd⟩ = true := by rw [HG.out]; rw [decide_eq_true t2, decide_eq_true t3, Bool.and_self, Bool.or_true]
              have HE : Hid ((out ++ [⟨cx, cz, cy, cd⟩]) ++ [⟨yx, yz, yy, yd⟩] ++ putF ⟨cx, cz, cy, cd⟩ true (l.drop (k + 1)) = res) := by
                show _ = _
                rw [← HK2.out, if_pos (by simp [hg])]
                simp
              clear HK2 HG hg
              have hsz := hb9.size
              go_upto_region 12 with (at_builtin; refine wpList_appR (f := crC) (sz := 4) (e := 105) (B := W.heap.size) (n := out.length) (xs := out) _ crC_len crC_one rfl _ _ 99 rfl (.agg #[.int .i64 0, .int .i64 0, .int .i64 0, .int .i64 0]) 32 Tryz.underlying99 info_corner rfl (by decide) ⟨cx, cz, cy, cd⟩ 105 hO9 rfl rfl (by omega) (by omega) (by omega) ?_; intro v1 w1 hown1 happ1)
              have hne1 := hO9.le
              have hb1 := hb9.trans (happ1.below (B := W.heap.size) hb9.size (fun j hj => hne1 j hj))
              have hownB := own_len hown1
              obtain ⟨bk3, off3, hbk3, _, hcc3⟩ := (Hs.out.below hb1 (Nat.le_refl _)).at0 (by omega)
              cases hbk3
              have r0 : w1.cell? ⟨bk, off + k * 4, none⟩ = some (.int .i64 yx) := hcc3 k _ Hy.out 0 _ rfl
              have r1 : w1.cell? ⟨bk, off + k * 4 + 1, none⟩ = some (.int .i64 yz) := hcc3 k _ Hy.out 1 _ rfl
              have r2 : w1.cell? ⟨bk, off + k * 4 + 2, none⟩ = some (.int .i64 yy) := hcc3 k _ Hy.out 2 _ rfl
              have r3 : w1.cell? ⟨bk, off + k * 4 + 3, none⟩ = some (.int .i64 yd) := hcc3 k _ Hy.out 3 _ rfl
              have hol2 : (out ++ [(⟨cx, cz, cy, cd⟩ : Cr)]).length ≤ 2 * k + 1 := by simp; omega
              have hsz1 := hb1.size
              clear happ1 hown1 hO9 hb9 hcc3 q0 q1 q2 q3 x0 x1 x2 x3
              go_wp2_with (at_builtin; refine wpList_appR (f := crC) (sz := 4) (e := 105) (B := W.heap.size) (n := (out ++ [(⟨cx, cz, cy, cd⟩ : Cr)]).length) (xs := (out ++ [(⟨cx, cz, cy, cd⟩ : Cr)])) _ crC_len crC_one rfl _ _ 99 rfl (.agg #[.int .i64 0, .int .i64 0, .int .i64 0, .int .i64 0]) 32 Tryz.underlying99 info_corner rfl (by decide) ⟨yx, yz, yy, yd⟩ 105 hownB rfl rfl (by omega) (by omega) (by omega) ?_; intro v' w' hown' happ)
              have hne := hownB.le
              have hbE := hb1.trans (happ.below (B := W.heap.size) hb1.size (fun j hj => hne j hj))
              clear happ hownB hb1 r0 r1 r2 r3
              go_wp2
              go_roundw
              case rel => exact ⟨k + 1, true, (out ++ [⟨cx, cz, cy, cd⟩]) ++ [⟨yx, yz, yy, yd⟩], by go_num, rfl, by omega, own_len hown', by simp; omega, HE, hbE⟩
              case measure => simp [intOf]; omega
            · have hg : gtR ⟨yx, yz, yy, yd⟩ ⟨cx, cz, cy, cd⟩ = false := by rw [HG.out]; rw [decide_eq_false t1, decide_eq_false t3, Bool.and_false, Bool.or_false]
              have HE : Hid ((out) ++ [⟨yx, yz, yy, yd⟩] ++ putF ⟨cx, cz, cy, cd⟩ false (l.drop (k + 1)) = res) := by
                show _ = _
                rw [← HK2.out, if_neg (by simp [hg])]
                simp
              clear HK2 HG hg
              have hsz := hb9.size
              go_wp2_with (at_builtin; refine wpList_appR (f := crC) (sz := 4) (e := 105) (B := W.heap.size) (n := (out).length) (xs := out) _ crC_len crC_one rfl _ _ 99 rfl (.agg #[.int .i64 0, .int .i64 0, .int .i64 0, .int .i64 0]) 32 Tryz.underlying99 info_corner rfl (by decide) ⟨yx, yz, yy, yd⟩ 105 hO9 rfl rfl (by omega) (by omega) (by omega) ?_; intro v' w' hown' happ)
              have hne := hO9.le
              have hbE := hb9.trans (happ.below (B := W.heap.size) hb9.size (fun j hj => hne j hj))
              clear happ hO9 hb9 q0 q1 q2 q3 x0 x1 x2 x3
              go_wp2
              go_roundw
              case rel => exact ⟨k + 1, false, (out) ++ [⟨yx, yz, yy, yd⟩], by go_num, rfl, by omega, own_len hown', by simp; omega, HE, hbE⟩
              case measure => simp [intOf]; omega
          · have t2' : (yx * cd - cx * yd == 0) = false := by simpa using t2
            have hg : gtR ⟨yx, yz, yy, yd⟩ ⟨cx, cz, cy, cd⟩ = false := by rw [HG.out]; rw [decide_eq_false t1, decide_eq_false t2, Bool.false_and, Bool.or_false]
            have HE : Hid ((out) ++ [⟨yx, yz, yy, yd⟩] ++ putF ⟨cx, cz, cy, cd⟩ false (l.drop (k + 1)) = res) := by
              show _ = _
              rw [← HK2.out, if_neg (by simp [hg])]
              simp
            clear HK2 HG hg
            have hsz := hb9.size
            go_wp2_with (at_builtin; refine wpList_appR (f := crC) (sz := 4) (e := 105) (B := W.heap.size) (n := (out).length) (xs := out) _ crC_len crC_one rfl _ _ 99 rfl (.agg #[.int .i64 0, .int .i64 0, .int .i64 0, .int .i64 0]) 32 Tryz.underlying99 info_corner rfl (by decide) ⟨yx, yz, yy, yd⟩ 105 hO9 rfl rfl (by omega) (by omega) (by omega) ?_; intro v' w' hown' happ)
            have hne := hO9.le
            have hbE := hb9.trans (happ.below (B := W.heap.size) hb9.size (fun j hj => hne j hj))
            clear happ hO9 hb9 q0 q1 q2 q3 x0 x1 x2 x3
            go_wp2
            go_roundw
            case rel => exact ⟨k + 1, false, (out) ++ [⟨yx, yz, yy, yd⟩], by go_num, rfl, by omega, own_len hown', by simp; omega, HE, hbE⟩
            case measure => simp [intOf]; omega
    · obtain rfl : k = n := by omega
      cases d with
      | true =>
        have HE : Hid (out = res) := by
          show _ = _
          rw [← HK.out, List.drop_eq_nil_of_le (by rw [Hl.out]; exact Nat.le_refl _)]
          simp [putF]
        have hBr := hB.trans (hb.mono hB.size)
        have hO := hown.mono (B' := w.heap.size) hB.size
        clear HK hown hb hXr x0 x1 x2 x3
        go_wp2
        go_ret
        exact ⟨_, rfl, by rw [← HT.out, ← HE.out]; rw [HT.out]; exact hO, hBr⟩
      | false =>
        have HE : Hid (out ++ [⟨cx, cz, cy, cd⟩] = res) := by
          show _ = _
          rw [← HK.out, List.drop_eq_nil_of_le (by rw [Hl.out]; exact Nat.le_refl _)]
          simp [putF]
        clear HK hXr
        have hsz := hb.size
        go_wp2_with (at_builtin; refine wpList_appR (f := crC) (sz := 4) (e := 105) (B := W.heap.size) (n := out.length) (xs := out) _ crC_len crC_one rfl _ _ 99 rfl (.agg #[.int .i64 0, .int .i64 0, .int .i64 0, .int .i64 0]) 32 Tryz.underlying99 info_corner rfl (by decide) ⟨cx, cz, cy, cd⟩ 105 hown rfl rfl (by omega) (by omega) (by omega) ?_; intro v1 w1 hown1 happ1)
        have hne1 := hown.le
        have hb1 := hb.trans (happ1.below (B := W.heap.size) hb.size (fun j hj => hne1 j hj))
        have hBr := hB.trans (hb1.mono hB.size)
        have hO := (own_len hown1).mono (B' := w.heap.size) hB.size
        clear happ1 hown1 hown hb hb1 x0 x1 x2 x3
        go_wp2
        go_ret
        exact ⟨_, rfl, by rw [← HE.out]; exact hO, hBr⟩
end Go.Proofs.YtjiklfffcnfdjaaGreat

namespace Go.Proofs.YtjiklfffcnfdjaaGreat

/-! ### Inside -/
theorem sign_neg {e : Int} (h : e < 0) : signI e = -1 := by unfold signI; rw [if_pos h]
theorem sign_zero : signI 0 = 0 := rfl
theorem sign_pos {e : Int} (h : 0 < e) : signI e = 1 := by unfold signI; rw [if_neg (by omega), if_pos h]
theorem three_way (e : Int) : e < 0 ∨ e = 0 ∨ 0 < e := by omega
theorem ins_pos {e f g : Int} (h : 0 < e + f + g) : insR 0 [signI e, signI f, signI g] = (decide (0 ≤ e) && decide (0 ≤ f) && decide (0 ≤ g)) := by
  rcases three_way e with h1 | h1 | h1 <;> rcases three_way f with h2 | h2 | h2 <;> rcases three_way g with h3 | h3 | h3 <;>
    (first
      | (exfalso; omega)
      | (simp only [sign_neg, sign_pos, h1, h2, h3, sign_zero]
         simp [insR]
         try omega))
theorem ins_neg {e f g : Int} (h : e + f + g < 0) : insR 0 [signI e, signI f, signI g] = (decide (e ≤ 0) && decide (f ≤ 0) && decide (g ≤ 0)) := by
  rcases three_way e with h1 | h1 | h1 <;> rcases three_way f with h2 | h2 | h2 <;> rcases three_way g with h3 | h3 | h3 <;>
    (first
      | (exfalso; omega)
      | (simp only [sign_neg, sign_pos, h1, h2, h3, sign_zero]
         simp [insR]
         try omega))
theorem edge_rev (u v : V3) (p : Sp) : edgeS v u p = -edgeS u v p := by
  simp only [edgeS, crossI]
  grind
theorem open_cases {a b c : V3} {t : T3} (ho : openT a b c = (t, true)) : (t = ⟨a, b, c, flatS a b c⟩ ∧ 0 < flatS a b c) ∨ (t = ⟨a, c, b, -flatS a b c⟩ ∧ flatS a b c < 0) := by
  unfold openT at ho
  split at ho
  · split at ho
    · rename_i h
      cases ho
      exact .inr ⟨rfl, h⟩
    · rename_i h
      rw [Prod.mk.injEq, decide_eq_true_eq] at ho
      obtain ⟨rfl, h2⟩ := ho
      exact .inl ⟨rfl, by omega⟩
  · cases ho
theorem inside_holds {a b c : V3} {t : T3} (ho : openT a b c = (t, true)) {p : Sp} (hd : 0 < p.d) : insideR a b c p = holdsT t p := by
  have hs := bary_d a b c p
  unfold insideR sgnL
  rcases open_cases ho with ⟨rfl, h⟩ | ⟨rfl, h⟩
  · have : 0 < flatS a b c * p.d := Int.mul_pos h hd
    rw [ins_pos (by omega)]
    rfl
  · have : flatS a b c * p.d < 0 := Int.mul_neg_of_neg_of_pos h hd
    rw [ins_neg (by omega)]
    show _ = (decide (0 ≤ edgeS a c p) && decide (0 ≤ edgeS c b p) && decide (0 ≤ edgeS b a p))
    rw [edge_rev c a, edge_rev b c, edge_rev a b]
    have e : ∀ x : Int, decide (0 ≤ -x) = decide (x ≤ 0) := fun x => by
      by_cases h : x ≤ 0
      · rw [decide_eq_true h, decide_eq_true (by omega)]
      · rw [decide_eq_false h, decide_eq_false (by omega)]
    rw [e, e, e]
    cases decide (edgeS a b p ≤ 0) <;> cases decide (edgeS b c p ≤ 0) <;> cases decide (edgeS c a p ≤ 0) <;> rfl

/-! ### Points -/
def ptVer (x z : Int) (u : V3) : List Sp := if withinR u.x 1 x (x + 1) && withinR u.z 1 z (z + 1) then [⟨u.x, u.z, 1⟩] else []
def ptX (z : Int) (u v : V3) (n : Int) : List Sp :=
  if (crossR u.x v.x n).2.2 && withinR (u.z * (crossR u.x v.x n).2.1 + (v.z - u.z) * (crossR u.x v.x n).1) (crossR u.x v.x n).2.1 z (z + 1)
  then [⟨n * (crossR u.x v.x n).2.1, u.z * (crossR u.x v.x n).2.1 + (v.z - u.z) * (crossR u.x v.x n).1, (crossR u.x v.x n).2.1⟩] else []
def ptZ (x : Int) (u v : V3) (n : Int) : List Sp :=
  if (crossR u.z v.z n).2.2 && withinR (u.x * (crossR u.z v.z n).2.1 + (v.x - u.x) * (crossR u.z v.z n).1) (crossR u.z v.z n).2.1 x (x + 1)
  then [⟨u.x * (crossR u.z v.z n).2.1 + (v.x - u.x) * (crossR u.z v.z n).1, n * (crossR u.z v.z n).2.1, (crossR u.z v.z n).2.1⟩] else []
def ptCol (a b c : V3) (x z : Int) : List Sp := (colS x z).filter (insideR a b c)
def ptSide (x z : Int) (u v : V3) : List Sp := ptVer x z u ++ ((ptX z u v x ++ ptZ x u v z) ++ (ptX z u v (x + 1) ++ ptZ x u v (z + 1)))
def ptsR (a b c : V3) (x z : Int) : List Sp := ptCol a b c x z ++ (ptSide x z a b ++ ptSide x z b c ++ ptSide x z c a)
theorem mul_neg_pos {a d : Int} (hd : 0 < d) : a * d < 0 ↔ a < 0 := by
  constructor
  · intro h
    rcases Int.lt_or_le a 0 with h1 | h1
    · exact h1
    · have := Int.mul_nonneg h1 (Int.le_of_lt hd); omega
  · intro h; exact Int.mul_neg_of_neg_of_pos h hd
theorem mul_neg_neg {a d : Int} (hd : d < 0) : a * d < 0 ↔ 0 < a := by
  constructor
  · intro h
    rcases Int.lt_or_le 0 a with h1 | h1
    · exact h1
    · have := Int.mul_nonneg_of_nonpos_of_nonpos h1 (Int.le_of_lt hd); omega
  · intro h; exact Int.mul_neg_of_pos_of_neg h hd
theorem along_cross (u v : V3) (n : Int) : (alongP u v n).2 = (crossR u.x v.x n).2.2 ∧ ((alongP u v n).2 = true → (alongP u v n).1 = ⟨n * (crossR u.x v.x n).2.1, u.z * (crossR u.x v.x n).2.1 + (v.z - u.z) * (crossR u.x v.x n).1, (crossR u.x v.x n).2.1⟩ ∧ 0 < (crossR u.x v.x n).2.1) := by
  unfold alongP crossR
  simp only
  rcases three_way (v.x - u.x) with h | h | h
  · have e1 := mul_neg_neg (a := n - u.x) h
    have e2 := mul_neg_neg (a := v.x - n) h
    by_cases hc : u.x = v.x ∨ n < min u.x v.x ∨ max u.x v.x < n
    · rw [if_pos hc, if_pos (by omega)]
      exact ⟨rfl, fun h => by cases h⟩
    · rw [if_neg hc, if_neg (by omega), if_pos h, if_neg (by omega)]
      refine ⟨rfl, fun _ => ⟨?_, by simp only; omega⟩⟩
      simp only [Sp.mk.injEq]
      refine ⟨by grind, by grind, by omega⟩
  · rw [if_pos (.inl h), if_pos (.inl (by omega))]
    exact ⟨rfl, fun h => by cases h⟩
  · have e1 := mul_neg_pos (a := n - u.x) h
    have e2 := mul_neg_pos (a := v.x - n) h
    by_cases hc : u.x = v.x ∨ n < min u.x v.x ∨ max u.x v.x < n
    · rw [if_pos hc, if_pos (by omega)]
      exact ⟨rfl, fun h => by cases h⟩
    · rw [if_neg hc, if_neg (by omega), if_neg (by omega), if_pos (by omega)]
      exact ⟨rfl, fun _ => ⟨rfl, h⟩⟩
theorem ptX_mem {x z : Int} {u v : V3} {n : Int} (hn : n = x ∨ n = x + 1) {p : Sp} : p ∈ ptX z u v n ↔ p ∈ keepS x z (alongP u v n) := by
  rw [keep_mem]
  obtain ⟨h1, h2⟩ := along_cross u v n
  unfold ptX
  cases hk : (alongP u v n).2 with
  | false =>
    rw [hk] at h1
    rw [← h1]
    simp
  | true =>
    rw [hk] at h1
    obtain ⟨h3, h4⟩ := h2 hk
    rw [← h1, h3]
    generalize (crossR u.x v.x n).2.1 = q at *
    generalize (crossR u.x v.x n).1 = s at *
    have e1 : decide (x * q ≤ n * q) = true := decide_eq_true (Int.mul_le_mul_of_nonneg_right (by omega) (by omega))
    have e2 : decide (n * q ≤ (x + 1) * q) = true := decide_eq_true (Int.mul_le_mul_of_nonneg_right (by omega) (by omega))
    have e : overS x z ⟨n * q, u.z * q + (v.z - u.z) * s, q⟩ = withinR (u.z * q + (v.z - u.z) * s) q z (z + 1) := by
      unfold overS withinR
      simp only [e1, e2, Bool.true_and]
    rw [e]
    cases withinR (u.z * q + (v.z - u.z) * s) q z (z + 1) <;> simp
theorem over_swap (x z : Int) (p : Sp) : overS z x ⟨p.z, p.x, p.d⟩ = overS x z p := by
  unfold overS
  cases decide (z * p.d ≤ p.z) <;> cases decide (p.z ≤ (z + 1) * p.d) <;> cases decide (x * p.d ≤ p.x) <;> cases decide (p.x ≤ (x + 1) * p.d) <;> rfl
theorem ptZ_mem {x z : Int} {u v : V3} {n : Int} (hn : n = z ∨ n = z + 1) {p : Sp} : p ∈ ptZ x u v n ↔ p ∈ keepS x z (alongQ u v n) := by
  have h := ptX_mem (x := z) (z := x) (u := turnV u) (v := turnV v) hn (p := ⟨p.z, p.x, p.d⟩)
  rw [keep_mem] at h ⊢
  have hp : p ∈ ptZ x u v n ↔ (⟨p.z, p.x, p.d⟩ : Sp) ∈ ptX x (turnV u) (turnV v) n := by
    obtain ⟨p1, p2, p3⟩ := p
    by_cases hc : ((crossR u.z v.z n).2.2 && withinR (u.x * (crossR u.z v.z n).2.1 + (v.x - u.x) * (crossR u.z v.z n).1) (crossR u.z v.z n).2.1 x (x + 1)) = true
    · have e1 : ptZ x u v n = [⟨u.x * (crossR u.z v.z n).2.1 + (v.x - u.x) * (crossR u.z v.z n).1, n * (crossR u.z v.z n).2.1, (crossR u.z v.z n).2.1⟩] := if_pos hc
      have e2 : ptX x (turnV u) (turnV v) n = [⟨n * (crossR u.z v.z n).2.1, u.x * (crossR u.z v.z n).2.1 + (v.x - u.x) * (crossR u.z v.z n).1, (crossR u.z v.z n).2.1⟩] := if_pos hc
      rw [e1, e2]
      simp only [List.mem_singleton, Sp.mk.injEq]
      constructor
      · rintro ⟨h1, h2, h3⟩; exact ⟨h2, h1, h3⟩
      · rintro ⟨h1, h2, h3⟩; exact ⟨h2, h1, h3⟩
    · have e1 : ptZ x u v n = [] := if_neg hc
      have e2 : ptX x (turnV u) (turnV v) n = [] := if_neg hc
      rw [e1, e2]
      simp
  rw [hp, h]
  unfold alongQ
  simp only
  generalize alongP (turnV u) (turnV v) n = r
  obtain ⟨⟨r1, r2, r3⟩, rk⟩ := r
  obtain ⟨p1, p2, p3⟩ := p
  simp only [Sp.mk.injEq]
  have := over_swap x z ⟨r2, r1, r3⟩
  simp only at this
  rw [this]
  constructor
  · rintro ⟨h1, h2, h3, h4, h5⟩; exact ⟨h1, h2, h4, h3, h5⟩
  · rintro ⟨h1, h2, h3, h4, h5⟩; exact ⟨h1, h2, h4, h3, h5⟩
theorem keepX_far {x z : Int} {u v : V3} {n : Int} {p : Sp} (h : p ∈ keepS x z (alongP u v n)) : n = x ∨ n = x + 1 ∨ (x < n ∧ n < x + 1) ∨ False := by
  obtain ⟨h1, h2, rfl⟩ := keep_mem.1 h
  obtain ⟨_, hh⟩ := along_cross u v n
  obtain ⟨h3, h4⟩ := hh h1
  rw [h3] at h2
  generalize (crossR u.x v.x n).2.1 = q at *
  unfold overS at h2
  simp only [Bool.and_eq_true, decide_eq_true_eq] at h2
  have a1 : x ≤ n := Int.le_of_mul_le_mul_right h2.1.1.1 h4
  have a2 : n ≤ x + 1 := Int.le_of_mul_le_mul_right h2.1.1.2 h4
  omega
theorem keepZ_far {x z : Int} {u v : V3} {n : Int} {p : Sp} (h : p ∈ keepS x z (alongQ u v n)) : n = z ∨ n = z + 1 := by
  have h' : (⟨p.z, p.x, p.d⟩ : Sp) ∈ keepS z x (alongP (turnV u) (turnV v) n) := by
    rw [keep_mem] at h ⊢
    obtain ⟨h1, h2, h3⟩ := h
    refine ⟨h1, ?_, ?_⟩
    · rw [← over_swap] at h2
      exact h2
    · rw [h3]
      rfl
  rcases keepX_far h' with h1 | h1 | h1 | h1
  · exact .inl h1
  · exact .inr h1
  · omega
  · exact h1.elim
theorem side_pts {x z : Int} {u v : V3} {p : Sp} : p ∈ sideS x z u v ↔ p ∈ (ptX z u v x ++ ptZ x u v z) ++ (ptX z u v (x + 1) ++ ptZ x u v (z + 1)) := by
  rw [side_mem]
  simp only [List.mem_append]
  rw [ptX_mem (x := x) (.inl rfl), ptX_mem (x := x) (.inr rfl), ptZ_mem (z := z) (.inl rfl), ptZ_mem (z := z) (.inr rfl)]
  constructor
  · rintro ⟨n, _, h | h⟩
    · rcases keepX_far h with rfl | rfl | h' | h'
      · exact .inl (.inl h)
      · exact .inr (.inl h)
      · omega
      · exact h'.elim
    · rcases keepZ_far h with rfl | rfl
      · exact .inl (.inr h)
      · exact .inr (.inr h)
  · rintro ((h | h) | (h | h))
    · exact ⟨x, by simp, .inl h⟩
    · exact ⟨z, by simp, .inr h⟩
    · exact ⟨x + 1, by simp, .inl h⟩
    · exact ⟨z + 1, by simp, .inr h⟩
theorem along_rev (u v : V3) (n : Int) : alongP v u n = alongP u v n := by
  unfold alongP
  simp only
  have e1 : (n - v.x) * (u.x - v.x) = (v.x - n) * (v.x - u.x) := by grind
  have e2 : (u.x - n) * (u.x - v.x) = (n - u.x) * (v.x - u.x) := by grind
  rw [e1, e2]
  by_cases hc : v.x - u.x = 0 ∨ (n - u.x) * (v.x - u.x) < 0 ∨ (v.x - n) * (v.x - u.x) < 0
  · rw [if_pos hc, if_pos (by rcases hc with h | h | h; · exact .inl (by omega)
                              · exact .inr (.inr h)
                              · exact .inr (.inl h))]
  · rw [if_neg hc, if_neg (by
      intro h
      apply hc
      rcases h with h | h | h
      · exact .inl (by omega)
      · exact .inr (.inr h)
      · exact .inr (.inl h))]
    by_cases hd : v.x - u.x < 0
    · rw [if_pos hd, if_neg (by omega)]
      have : -(v.x - u.x) = u.x - v.x := by omega
      rw [this]
    · have hd2 : u.x - v.x < 0 := by
        have : v.x - u.x ≠ 0 := fun h => hc (.inl h)
        omega
      rw [if_neg hd, if_pos hd2]
      have : -(u.x - v.x) = v.x - u.x := by omega
      rw [this]
theorem side_rev {x z : Int} {u v : V3} {p : Sp} : p ∈ sideS x z v u ↔ p ∈ sideS x z u v := by
  rw [side_mem, side_mem]
  simp only [alongQ, along_rev u v, along_rev (turnV u) (turnV v)]
theorem ver_pts {x z : Int} {u : V3} {p : Sp} : p ∈ ptVer x z u ↔ p = ⟨u.x, u.z, 1⟩ ∧ overS x z p = true := by
  have e : overS x z ⟨u.x, u.z, 1⟩ = (withinR u.x 1 x (x + 1) && withinR u.z 1 z (z + 1)) := by
    unfold overS withinR
    simp only [Bool.and_assoc]
  unfold ptVer
  rw [← e]
  split
  · rename_i h
    simp only [List.mem_singleton]
    constructor
    · rintro rfl; exact ⟨rfl, h⟩
    · rintro ⟨rfl, _⟩; rfl
  · rename_i h
    constructor
    · intro h'; cases h'
    · rintro ⟨rfl, h'⟩; exact absurd h' h
theorem ptSide_mem {x z : Int} {u v : V3} {p : Sp} : p ∈ ptSide x z u v ↔ (p = ⟨u.x, u.z, 1⟩ ∧ overS x z p = true) ∨ p ∈ sideS x z u v := by
  unfold ptSide
  rw [List.mem_append, ver_pts, ← side_pts]
/-- The reference's points are the same points. -/
theorem pts_mem {a b c : V3} {t : T3} (ho : openT a b c = (t, true)) (x z : Int) (p : Sp) : p ∈ ptsR a b c x z ↔ p ∈ spotsS t x z := by
  have hcol : p ∈ ptCol a b c x z ↔ p ∈ colS x z ∧ holdsT t p = true := by
    unfold ptCol
    rw [List.mem_filter]
    constructor
    · rintro ⟨h1, h2⟩
      refine ⟨h1, ?_⟩
      rwa [← inside_holds ho (by simp only [colS, List.mem_cons, List.not_mem_nil, or_false] at h1; rcases h1 with rfl | rfl | rfl | rfl <;> exact Int.zero_lt_one)]
    · rintro ⟨h1, h2⟩
      refine ⟨h1, ?_⟩
      rwa [inside_holds ho (by simp only [colS, List.mem_cons, List.not_mem_nil, or_false] at h1; rcases h1 with rfl | rfl | rfl | rfl <;> exact Int.zero_lt_one)]
  unfold ptsR
  rw [List.mem_append, hcol, spots_mem, List.mem_append, List.mem_append, ptSide_mem, ptSide_mem, ptSide_mem]
  rcases open_cases ho with ⟨rfl, _⟩ | ⟨rfl, _⟩
  · simp only [verS, List.mem_cons, List.not_mem_nil, or_false]
    constructor
    · rintro (h | ((⟨h1, h2⟩ | h) | (⟨h1, h2⟩ | h)) | (⟨h1, h2⟩ | h))
      · exact .inl h
      · exact .inr (.inl ⟨.inl h1, h2⟩)
      · exact .inr (.inr (.inl h))
      · exact .inr (.inl ⟨.inr (.inl h1), h2⟩)
      · exact .inr (.inr (.inr (.inl h)))
      · exact .inr (.inl ⟨.inr (.inr h1), h2⟩)
      · exact .inr (.inr (.inr (.inr h)))
    · rintro (h | ⟨h1 | h1 | h1, h2⟩ | h | h | h)
      · exact .inl h
      · exact .inr (.inl (.inl (.inl ⟨h1, h2⟩)))
      · exact .inr (.inl (.inr (.inl ⟨h1, h2⟩)))
      · exact .inr (.inr (.inl ⟨h1, h2⟩))
      · exact .inr (.inl (.inl (.inr h)))
      · exact .inr (.inl (.inr (.inr h)))
      · exact .inr (.inr (.inr h))
  · simp only [verS, List.mem_cons, List.not_mem_nil, or_false]
    rw [side_rev (u := c) (v := a), side_rev (u := b) (v := c), side_rev (u := a) (v := b)]
    constructor
    · rintro (h | ((⟨h1, h2⟩ | h) | (⟨h1, h2⟩ | h)) | (⟨h1, h2⟩ | h))
      · exact .inl h
      · exact .inr (.inl ⟨.inl h1, h2⟩)
      · exact .inr (.inr (.inr (.inr h)))
      · exact .inr (.inl ⟨.inr (.inr h1), h2⟩)
      · exact .inr (.inr (.inr (.inl h)))
      · exact .inr (.inl ⟨.inr (.inl h1), h2⟩)
      · exact .inr (.inr (.inl h))
    · rintro (h | ⟨h1 | h1 | h1, h2⟩ | h | h | h)
      · exact .inl h
      · exact .inr (.inl (.inl (.inl ⟨h1, h2⟩)))
      · exact .inr (.inr (.inl ⟨h1, h2⟩))
      · exact .inr (.inl (.inr (.inl ⟨h1, h2⟩)))
      · exact .inr (.inr (.inr h))
      · exact .inr (.inl (.inr (.inr h)))
      · exact .inr (.inl (.inl (.inr h)))

/-! ### Put one by one -/
theorem gtR_iff (y c : Cr) : gtR y c = true ↔ crLt c y := by
  unfold gtR crLt ltR leR xR zR
  rw [Bool.or_eq_true, Bool.and_eq_true, decide_eq_true_eq, decide_eq_true_eq, decide_eq_true_eq]
  simp only
  omega
theorem putF_done (c : Cr) : ∀ l : List Cr, putF c true l = l
  | [] => rfl
  | y :: l => by
    unfold putF
    rw [putF_done c l]
    split
    · rfl
    · rfl
theorem put_sorted (c : Cr) : ∀ l : List Cr, (∀ e ∈ c :: l, 0 < e.d) → l.Pairwise crLt → (∀ p ∈ c :: l, ∀ q ∈ c :: l, ¬ crLt p q → ¬ crLt q p → p = q) →
    (putF c false l).Pairwise crLt ∧ ∀ e, e ∈ putF c false l ↔ e = c ∨ e ∈ l
  | [], _, _, _ => by simp [putF]
  | y :: l, hp, hs, hk => by
    have hs1 := List.pairwise_cons.1 hs
    have hpc := hp c (by simp)
    have hpy := hp y (by simp)
    unfold putF
    by_cases h1 : y = c
    · rw [if_pos h1, putF_done]
      refine ⟨hs, fun e => ?_⟩
      subst h1
      simp
    · rw [if_neg h1]
      by_cases h2 : gtR y c = true
      · rw [if_pos (by simp [h2]), putF_done]
        have h3 := (gtR_iff y c).1 h2
        refine ⟨?_, fun e => by simp⟩
        rw [List.pairwise_cons]
        refine ⟨fun e he => ?_, hs⟩
        rw [List.mem_cons] at he
        rcases he with rfl | he
        · exact h3
        · exact crLt_trans hpc hpy (hp e (List.mem_cons_of_mem _ (List.mem_cons_of_mem _ he))) h3 (hs1.1 e he)
      · rw [if_neg (by simp [h2])]
        have h3 : crLt y c := Classical.byContradiction fun h4 => h1 (hk y (by simp) c (by simp) h4 (fun h5 => h2 ((gtR_iff y c).2 h5)))
        have hsub : ∀ e ∈ c :: l, e ∈ c :: y :: l := by
          intro e he
          rw [List.mem_cons] at he ⊢
          rcases he with rfl | he
          · exact .inl rfl
          · exact .inr (List.mem_cons_of_mem _ he)
        obtain ⟨i1, i2⟩ := put_sorted c l (fun e he => hp e (hsub e he)) hs1.2 (fun p hp' q hq' => hk p (hsub p hp') q (hsub q hq'))
        refine ⟨?_, fun e => ?_⟩
        · rw [List.pairwise_cons]
          refine ⟨fun e he => ?_, i1⟩
          rcases (i2 e).1 he with rfl | he
          · exact h3
          · exact hs1.1 e he
        · rw [List.mem_cons, i2, List.mem_cons]
          constructor
          · rintro (h | h | h)
            · exact .inr (.inl h)
            · exact .inl h
            · exact .inr (.inr h)
          · rintro (h | h | h)
            · exact .inr (.inl h)
            · exact .inl h
            · exact .inr (.inr h)
theorem fold_put (S : Cr → Prop) (hS : ∀ e, S e → 0 < e.d) (hK : ∀ p q, S p → S q → ¬ crLt p q → ¬ crLt q p → p = q) : ∀ (items acc : List Cr), (∀ e ∈ items, S e) → (∀ e ∈ acc, S e) → acc.Pairwise crLt →
    (items.foldl putL acc).Pairwise crLt ∧ ∀ e, e ∈ items.foldl putL acc ↔ e ∈ acc ∨ e ∈ items
  | [], acc, _, _, h => ⟨h, fun e => by simp⟩
  | c :: items, acc, h1, h2, h3 => by
    have hall : ∀ e ∈ c :: acc, S e := by
      intro e he
      rw [List.mem_cons] at he
      rcases he with rfl | he
      · exact h1 e (by simp)
      · exact h2 e he
    obtain ⟨i1, i2⟩ := put_sorted c acc (fun e he => hS e (hall e he)) h3 (fun p hp q hq => hK p q (hall p hp) (hall q hq))
    obtain ⟨j1, j2⟩ := fold_put S hS hK items (putL acc c) (fun e he => h1 e (List.mem_cons_of_mem _ he)) (fun e he => by
      rcases (i2 e).1 he with rfl | he'
      · exact h1 e (by simp)
      · exact h2 e he') i1
    refine ⟨j1, fun e => ?_⟩
    rw [List.foldl_cons, j2, List.mem_cons]
    have := i2 e
    unfold putL
    rw [this]
    constructor
    · rintro ((h | h) | h)
      · exact .inr (.inl h)
      · exact .inl h
      · exact .inr (.inr h)
    · rintro (h | h | h)
      · exact .inl (.inr h)
      · exact .inl (.inl h)
      · exact .inr h
/-- What the reference's Corners tells. -/
def refCorn (t : T3) (a b c : V3) (x z : Int) : List Cr := ((ptsR a b c x z).map (liftT t)).foldl putL []
theorem refcorn_at {a b c : V3} {t : T3} (ho : openT a b c = (t, true)) (x z : Int) : CornAt t x z (refCorn t a b c x z) := by
  obtain ⟨f1, f2⟩ := open_flat ho
  have hm : ∀ e, e ∈ (ptsR a b c x z).map (liftT t) ↔ e ∈ (spotsS t x z).map (liftT t) := by
    intro e
    simp only [List.mem_map, pts_mem ho]
  obtain ⟨i1, i2⟩ := fold_put (fun e => e ∈ (spotsS t x z).map (liftT t)) (fun e he => by
    obtain ⟨p, hp, rfl⟩ := List.mem_map.1 he
    exact (lift_key f2 (spots_in f1 f2 hp).1).1) (fun p q hp hq => lift_key_eq f1 f2 hp hq) ((ptsR a b c x z).map (liftT t)) [] (fun e he => (hm e).1 he) (by simp) List.Pairwise.nil
  exact ⟨i1, fun e => by rw [refCorn, i2, hm]; simp⟩
theorem corn_same {t : T3} {x z : Int} {l m : List Cr} (f1 : t.s = flatS t.a t.b t.c) (f2 : 0 < t.s) (h1 : CornAt t x z l) (h2 : CornAt t x z m) : l = m := by
  refine sorted_eq l m (fun e he => ?_) h1.1 h2.1 (fun e => by rw [h1.2, h2.2])
  obtain ⟨p, hp, rfl⟩ := List.mem_map.1 ((h1.2 e).1 he)
  exact (lift_key f2 (spots_in f1 f2 hp).1).1
end Go.Proofs.YtjiklfffcnfdjaaGreat
