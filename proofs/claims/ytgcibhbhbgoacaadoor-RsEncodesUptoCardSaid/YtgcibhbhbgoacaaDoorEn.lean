/- law34.RsEncodes returns true: the walk (Ec) and the plain answers (Pf) joined, for rows that are short enough. -/
import Derived.Test.YtgcibhbhbgoacaaDoorPf
import Derived.Test.YtgcibhbhbgoacaaDoorEc
namespace Go.Proofs.YtgcibhbhbgoacaaDoor
open Go.Proofs.YtgcibhbhbgoacaaDoor.G FB
open Go.RowKit Go.Proofs.YtgcibhbhbgoacaaDoorW.PrintWords
theorem encodes_ok (D E : List F) (c : Int) (hD : D.length ≤ 17592186044415) (hE : E.length ≤ 17592186044415) :
    ∃ k gp ap bp, EncOk k c (Iz D) (Iz E) (Iz (turnP D)) (Iz (turnP (turnP D))) (Iz (turnP E)) gp ap bp := by
  have hP : (turnP D).length = D.length := turnP_length D
  have hP2 : (turnP (turnP D)).length = D.length := by rw [turnP_length, turnP_length]
  have hQ : (turnP E).length = E.length := turnP_length E
  obtain ⟨g, gb, gl, ⟨k1, g1⟩, ⟨k2, g2⟩⟩ := gen_both c
  obtain ⟨a, e, al, ⟨k3, e1⟩, ⟨k4, e2⟩⟩ := enc_both D c (by omega)
  obtain ⟨b, f, bl, ⟨k5, f1⟩, ⟨k6, f2⟩⟩ := enc_both (turnP D) c (by omega)
  obtain ⟨n0, b0, ⟨k7, d1⟩, ⟨k8, d2⟩⟩ := dist_both D E (by omega)
  obtain ⟨n1, b1, ⟨k9, d3⟩, ⟨k10, d4⟩⟩ := dist_both (turnP D) E (by omega)
  obtain ⟨n2, b2, ⟨k11, d5⟩, ⟨k12, d6⟩⟩ := dist_both (turnP (turnP D)) E (by omega)
  obtain ⟨n3, b3, ⟨k13, d7⟩, ⟨k14, d8⟩⟩ := dist_both (turnP (turnP D)) (turnP E) (by omega)
  obtain ⟨k15, m1⟩ := marked_ev (Iz D) (by rw [Iz_length]; omega)
  obtain ⟨k16, m2⟩ := marked_ev (Iz E) (by rw [Iz_length]; omega)
  obtain ⟨k17, s1⟩ := same_self g (by omega)
  obtain ⟨k18, s2⟩ := same_self a (by omega)
  obtain ⟨k19, s3⟩ := same_self b (by omega)
  obtain ⟨k20, s4⟩ := same_self D (by omega)
  obtain ⟨k21, s5⟩ := same_self E (by omega)
  obtain ⟨k22, s6⟩ := same_self (turnP D) (by omega)
  obtain ⟨k23, s7⟩ := same_self (turnP (turnP D)) (by omega)
  obtain ⟨k24, s8⟩ := same_self (turnP E) (by omega)
  obtain ⟨k25, t1⟩ := turned_ev D (by omega)
  obtain ⟨k26, t2⟩ := turned_ev (turnP D) (by omega)
  obtain ⟨k27, t3⟩ := turned_ev E (by omega)
  obtain ⟨k, hk⟩ : ∃ k, k = k1 + k2 + k3 + k4 + k5 + k6 + k7 + k8 + k9 + k10 + k11 + k12 + k13 + k14 + k15 + k16 + k17 + k18 + k19 + k20 + k21 + k22 + k23 + k24 + k25 + k26 + k27 := ⟨_, rfl⟩
  refine ⟨k, Iz g, Iz a, Iz b, ⟨gb, g1 k (by omega), g2 k (by omega)⟩, m1 k (by omega), ⟨e, e1 k (by omega), e2 k (by omega)⟩, ⟨f, f1 k (by omega), f2 k (by omega)⟩, ⟨n0, b0, d1 k (by omega), d2 k (by omega)⟩,
    s1 k (by omega), s2 k (by omega), s3 k (by omega), s4 k (by omega), t1 k (by omega), ?_, ?_, ?_, ?_⟩
  · exact ⟨m2 k (by omega), ⟨n1, b1, d3 k (by omega), d4 k (by omega)⟩, ⟨n2, b2, d5 k (by omega), d6 k (by omega)⟩, ⟨n3, b3, d7 k (by omega), d8 k (by omega)⟩, s6 k (by omega), s5 k (by omega), s7 k (by omega), s8 k (by omega), t2 k (by omega), t3 k (by omega),
      by rw [Iz_length]; omega, by rw [Iz_length]; omega, by rw [Iz_length]; omega, by rw [Iz_length]; omega⟩
  · rw [Iz_length]; omega
  · rw [Iz_length]; omega
  · rw [Iz_length]; omega
theorem bytes_bd {l : List Int} (h : ∀ x ∈ l, (Lit.int .u8 x).wf = true) : ∀ x ∈ l, 0 ≤ x ∧ x < 256 := fun x hx => by
  have := h x hx
  have h2 : 0 ≤ x ∧ x ≤ 255 := by simpa [Lit.wf, IntKind.min, IntKind.max, IntKind.signed, IntKind.bits] using this
  omega
theorem rsEncodes_walk (A0 : Option Addr) (c0 : Nat) (l0 : List Int) (A1 : Option Addr) (c1 : Nat) (l1 : List Int) (a2 : Int) (w : World) (hr0 : Kd.C (Kd.int .u8) w A0 l0.length l0) (hc0 : l0.length ≤ c0) (y0 : l0.length ≤ 1048576) (w0 : ∀ x ∈ l0, (Lit.int .u8 x).wf = true)
    (hr1 : Kd.C (Kd.int .u8) w A1 l1.length l1) (hc1 : l1.length ≤ c1) (y1 : l1.length ≤ 1048576) (w1 : ∀ x ∈ l1, (Lit.int .u8 x).wf = true) (_w2 : (Lit.int .i64 a2).wf = true) (ht : TabW w) :
    Calls Tryd.prog 3 #[.slice A0 l0.length c0, .slice A1 l1.length c1, .int .i64 a2] w fun e w' => e = .returned (.bool true) ∧ Below w.heap.size w w' := by
  obtain ⟨D, rfl⟩ := Iz_of (bytes_bd w0)
  obtain ⟨E, rfl⟩ := Iz_of (bytes_bd w1)
  rw [Iz_length] at y0 y1
  obtain ⟨k, gp, ap, bp, H⟩ := encodes_ok D E a2 (by omega) (by omega)
  exact fareboxlaw34_RsEncodes.full k _ _ a2 _ _ _ _ _ gp ap bp w w w.heap.size H (Below.refl _ _) (Nat.le_refl _) ⟨A0, c0, rfl, hc0, hr0⟩ ⟨A1, c1, rfl, hc1, hr1⟩ ht
end Go.Proofs.YtgcibhbhbgoacaaDoor
